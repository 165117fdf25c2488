/- Proved: for every scheme, size and list KeySchemesMatchSpec returns true: CheckScheme and Touched of the program and of the document give the same, with all errors; the arguments read as they did. Conditions: none. -/
import Derived.Test.YtifmgngmkajahaaSchemesF
import Derived.Test.YtifmgngmkajahaaOpen
import Derived.Test.YtifmgngmkajahaaAwake
namespace Go.Proofs.Ytifmgngmkajahaa
open Go.ChangeShapes Go.WideShapes Go.ChangeAt Go.RowKit

theorem keyTouched_any {A : Option Addr} {n c : Nat} {l : List (Int × Int)} {m cr sk z : Int} {w : World} (h : At w 2 e2 A n c l) :
    Calls Try.prog 44 #[schV m cr sk, .int .i64 z, .slice A n c] w (Gives 2 e2 w (touV m cr sk z l) (touF m cr sk z l)) := by
  by_cases hF : touF m cr sk z l = 0
  · exact keyTouched_ok h hF
  · exact keyTouched_bad h hF
theorem refTouched_any {A : Option Addr} {n c : Nat} {l : List (Int × Int)} {m cr sk z : Int} {w : World} (h : At w 2 e2 A n c l) :
    Calls Try.prog 45 #[schV m cr sk, .int .i64 z, .slice A n c] w (Gives 2 e2 w (touV m cr sk z l) (touF m cr sk z l)) := by
  by_cases hF : touF m cr sk z l = 0
  · obtain ⟨_, hz, _⟩ := touF_zero hF
    obtain ⟨Z, rfl⟩ : ∃ Z : Nat, z = (Z : Int) := ⟨z.toNat, by omega⟩
    exact refTouched_ok h hF
  · exact refTouched_bad h hF

set_option maxRecDepth 100000 in
set_option maxHeartbeats 4000000 in
theorem schemes_any {A : Option Addr} {n c : Nat} {l : List (Int × Int)} {m cr sk z : Int} {w : World} (h : At w 2 e2 A n c l) :
    Calls Try.prog 11 #[schV m cr sk, .int .i64 z, .slice A n c] w fun e w' => e = .returned (.bool true) ∧ Ext w w' := by
  have H := hide h
  clear h
  have hcl : ∀ W, Ext (w.alloc (.cells #[.int .i64 m, .int .i64 cr, .int .i64 sk] 57)) W →
      W.cell? ⟨w.heap.size, 0, none⟩ = some (.int .i64 m) ∧ W.cell? ⟨w.heap.size, 1, none⟩ = some (.int .i64 cr) ∧ W.cell? ⟨w.heap.size, 2, none⟩ = some (.int .i64 sk) ∧ w.heap.size < W.heap.size := fun W hW => by
    have b1 := (Blk.new w 57 #[.int .i64 m, .int .i64 cr, .int .i64 sk]).ext hW
    exact ⟨b1.cell 0, b1.cell 1, b1.cell 2, b1.lt⟩
  have HCL := hide hcl
  have HX := hide (Ext.alloc w (.cells #[.int .i64 m, .int .i64 cr, .int .i64 sk] 57))
  clear hcl
  go_enter Try.func11, Try.ntmps11
  go_wp2_with fail
  refine (keyTouched_any (H.out.ext HX.out)).mono ?_
  rintro e w1 ⟨A4, k4, c4, rfl, a4, e4⟩
  have E1 := hide e4
  have X1 := hide a4
  obtain ⟨c0, c1, c2, z1⟩ := HCL.out _ E1.out
  clear a4 e4
  go_wp2_with fail
  refine (refTouched_any (H.out.ext (Ext.trans HX.out E1.out))).mono ?_
  rintro e w2 ⟨A5, k5, c5, rfl, a5, e5⟩
  have Y1 := hide (X1.out.ext e5)
  have X2 := hide a5
  have E2 := hide (Ext.trans E1.out e5)
  clear a5 e5 X1 E1 c0 c1 c2 z1
  obtain ⟨c0, c1, c2, z2⟩ := HCL.out _ E2.out
  have HK := hide (fun W => keyScheme_any m cr sk W)
  have HR := hide (fun W => refScheme_any m cr sk W)
  generalize touF m cr sk z l = f1 at *
  generalize schF m cr sk = f2 at *
  go_wp2_with fail
  have EX := Ext.drew w2
  go_region_held3 (fun w' => w'.cell? ⟨w.heap.size, 0, none⟩ = some (.int .i64 m) ∧ w'.cell? ⟨w.heap.size, 1, none⟩ = some (.int .i64 cr) ∧ w'.cell? ⟨w.heap.size, 2, none⟩ = some (.int .i64 sk)) (first | go_keep | exact ⟨EX.cell c0, EX.cell c1, EX.cell c2⟩) (first
    | ((go_at_call 46; with_reducible refine (HK.out _).mono ?_); rintro e w3 ⟨rfl, e3⟩; have EX := Ext.trans EX e3)
    | ((go_at_call 47; with_reducible refine (HR.out _).mono ?_); rintro e w4 ⟨rfl, e4⟩; have EX := Ext.trans EX e4)
    | ((go_at_call 48; with_reducible refine (spansEq_true (Y1.out.ext EX) (X2.out.ext EX)).mono ?_); rintro e w5 ⟨rfl, e5⟩; have EX := Ext.trans EX e5)
    | ((go_at_call 23; with_reducible refine (awake_any _).mono ?_); rintro e w6 ⟨rfl, e6⟩; have EX := Ext.trans EX e6))
  have E9 := hide (Ext.trans HX.out (Ext.trans E2.out EX))
  clear EX
  go_wp2
  go_ret
  exact ⟨rfl, E9.out⟩

set_option maxRecDepth 100000 in
theorem keySchemesMatchSpec_lifted (os : Os) (started : os.Started) (H : Type) (enc : TypeId × Value → H) :
    ReturnsInHanded {} Try.checked os 11 .any (Rows.keySchemesMatchSpecSpec.pre6 enc Try.prog Try.f11 Rows.keySchemesMatchSpecRow.domain false) (Rows.keySchemesMatchSpecSpec.post enc Try.prog Try.f11 false true false false) := by
  refine returnsInHanded_of_change_sized (C := Try.checked) Try.own started (by kernel_rfl) Try.func11
    (ChangeSpec.witness6 (enc := enc) (C := Try.checked) false ⟨#[], #[.agg #[.int .i64 1, .int .i64 0, .int .i64 0], .int .i64 0, .slice none 0 0], []⟩ 8 (by kernel_rfl) (by kernel_rfl) (by kernel_rfl) (by kernel_rfl)) ?_
  intro W base args ds gs before hval0 hW _ _ _
  have hval : ∀ (j : Nat) t v, Try.f11.params[j]? = some t → args[j]? = some v → Value.okWide Try.prog W .any base t v := hval0
  have hW' := hW
  obtain ⟨p, q, hA0, hV, rfl, _, _⟩ := hW
  have hA : DataW.TrodAll enc Try.prog W 0 (fun _ => true) true Try.f11.params.toList args.toList ds p := hA0
  rw [Try.params11] at hA hval
  obtain ⟨v0, v1, v2, d0, d1, d2, p0, p1, p2, rfl, rfl, rfl, h0, h1, h2⟩ := trodAll_three hA
  obtain ⟨m0, c0, s0, rfl, _, _, _⟩ := open_scheme (hval 0 57 v0 rfl rfl) h0
  obtain ⟨x1, rfl, rfl, rfl, _⟩ := open_int Try.underlying3 (hval 1 3 v1 rfl rfl) h1
  obtain ⟨A2, n2, k2, l2, rfl, hAt2, _, _⟩ := open_subs (hval 2 44 v2 rfl rfl) h2
  refine (schemes_any hAt2).mono fun e W' ⟨he, hE⟩ => ?_
  subst he
  exact ⟨_, rfl, law_post Try.laidOut Try.underlying4 hW' rfl rfl rfl (by kernel_rfl) hE⟩
theorem keySchemesMatchSpec_closed : joinedFacts Try.prog 11 Try.f11 Rows.keySchemesMatchSpecSpec Rows.keySchemesMatchSpecRow = true :=
  joined_of Try.laidOut Try.mapsRowed Try.plainKeys Try.stopsHeard Try.stopsNone Try.knobsNone Try.mayEnter Try.makeCut Try.liftsFinal rfl rfl rfl (by as_aux_lemma => kernel_rfl)
    (by as_aux_lemma => kernel_rfl) (by as_aux_lemma => kernel_rfl) (by as_aux_lemma => kernel_rfl) (by as_aux_lemma => kernel_rfl) (by as_aux_lemma => kernel_rfl) (by as_aux_lemma => kernel_rfl) (by as_aux_lemma => kernel_rfl) (by as_aux_lemma => kernel_rfl) (by as_aux_lemma => kernel_rfl) (by as_aux_lemma => kernel_rfl)
theorem keySchemesMatchSpec_holds : Rows.KeySchemesMatchSpecSaid :=
  OpenClaim.holds_of_wide 11 Try.f11 rfl rfl rfl rfl rfl rfl rfl ⟨rfl, rfl, rfl, rfl, rfl⟩ rfl rfl rfl rfl rfl (by as_aux_lemma => kernel_rfl) Try.func11 keySchemesMatchSpec_closed
    (of_decide_eq_true (by kernel_rfl)) (by unfold Func.isWrapper; first | (rw [if_pos (by decide +kernel)]; kernel_rfl) | (rw [if_neg (by decide +kernel)]; exact ⟨rfl, rfl⟩))
    (fun os started H enc _ => keySchemesMatchSpec_lifted os started H enc)
#print axioms keySchemesMatchSpec_holds
end Go.Proofs.Ytifmgngmkajahaa
