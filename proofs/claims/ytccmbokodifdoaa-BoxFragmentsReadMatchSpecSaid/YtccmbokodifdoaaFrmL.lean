/- Proved: for all bytes BoxFragmentsReadMatchSpec returns true: ReadFragment of the program and of the document give the same fragment, place and fault. Conditions: none. -/
import Derived.Test.YtccmbokodifdoaaRfS
import Derived.Test.YtccmbokodifdoaaBoxE
import Derived.Test.YtccmbokodifdoaaLawG
namespace Go.Proofs.Ytccmbokodifdoaa
open Go.ChangeShapes Go.WideShapes Go.ChangeAt Go.RowKit
set_option maxRecDepth 100000 in
theorem open_bytes {H : Type} {enc : TypeId × Value → H} {W : World} {base : Nat} {v : Value} {d : DataW H} {p : List MemPlace} (hv : Value.okWide Try.prog W .any base 22 v) (h : DataW.Trod enc Try.prog W 0 (fun _ => true) true 22 v d p) :
    ∃ A n c l, v = .slice A n c ∧ At W 1 e8 A n c l ∧ Takes d c := open_bytesP Try.underlying22 Try.underlying5 (by kernel_rfl) hv h
set_option linter.unusedVariables false in
set_option maxRecDepth 100000 in
set_option maxHeartbeats 8000000 in
theorem frread_any {A : Option Addr} {n c : Nat} {b : List UInt8} {w : World} (h : At w 1 e8 A n c b) :
    Calls Try.prog 3 #[.slice A n c] w fun e w' => e = .returned (.bool true) ∧ Ext w w' := by
  have HAW := hide (fun (W : World) => awake_any W)
  have HK := hide (keyReadFrag_any h)
  have HR := hide (fun (W : World) (hW : Ext w W) => refReadFragment_any (h.ext hW))
  clear h
  go_enter Try.func3, Try.ntmps3
  go_wp2_with fail
  with_reducible refine HK.out.mono ?_
  rintro e w1 ⟨e1, N1, k1, c1, rfl, q1⟩
  have E1 := hide e1
  have Q1 := hide q1
  clear e1 q1 HK
  go_upto_region 2 with (fail)
  refine gen_wpC fun w2 h2 => ?_
  obtain ⟨gx, hgx⟩ : ∃ gx, gx = w1.heap.size := ⟨_, rfl⟩
  rw [← hgx]
  have EX : Hid (Ext w1 w2) := hide (by rw [h2]; exact Ext.alloc _ _)
  have E2 := hide (Ext.trans E1.out EX.out)
  have X2 : Hid (Blk w2 gx 25 #[.int .i64 (rfN b), .slice N1 k1 c1]) := hide (by rw [h2, hgx]; exact Blk.new _ _ _)
  have Q2 := hide (Q1.out.ext EX.out)
  clear h2 hgx EX Q1 E1
  go_wp2_with fail
  with_reducible refine (HR.out _ E2.out).mono ?_
  rintro e w3 ⟨e3, N3, k3, c3, rfl, q3⟩
  have E3 := hide (Ext.trans E2.out e3)
  have X3 := hide (X2.out.ext e3)
  have Q3 := hide (Q2.out.ext e3)
  have P3 := hide q3
  clear e3 q3 HR Q2 X2 E2
  go_upto_region 3 with (fail)
  refine gen_wpC fun w4 h4 => ?_
  obtain ⟨gy, hgy⟩ : ∃ gy, gy = w3.heap.size := ⟨_, rfl⟩
  rw [← hgy]
  have EY : Hid (Ext w3 w4) := hide (by rw [h4]; exact Ext.alloc _ _)
  have E4 := hide (Ext.trans E3.out EY.out)
  have X4 := hide (X3.out.ext EY.out)
  have Y4 : Hid (Blk w4 gy 25 #[.int .i64 (rfN b), .slice N3 k3 c3]) := hide (by rw [h4, hgy]; exact Blk.new _ _ _)
  have HSE := hide (smpEq_true (Q3.out.ext EY.out) (P3.out.ext EY.out))
  have x0 : w4.cell? ⟨gx, 0, none⟩ = some (.int .i64 (rfN b)) := X4.out.cell 0
  have x1 : w4.cell? ⟨gx, 1, none⟩ = some (.slice N1 k1 c1) := X4.out.cell 1
  have y0 : w4.cell? ⟨gy, 0, none⟩ = some (.int .i64 (rfN b)) := Y4.out.cell 0
  have y1 : w4.cell? ⟨gy, 1, none⟩ = some (.slice N3 k3 c3) := Y4.out.cell 1
  clear h4 hgy EY E3 X3 Q3 P3
  generalize rfN b = rn at *
  generalize rfA b = ra at *
  generalize rfF b = rf at *
  have d0 : (rn == rn) = true := by simp
  have d1 : (ra == ra) = true := by simp
  have d2 : (rf == rf) = true := by simp
  go_wp2_with fail
  with_reducible refine HSE.out.mono ?_
  rintro e w5 ⟨rfl, e5⟩
  have E5 := hide (Ext.trans E4.out e5)
  clear e5 x0 x1 y0 y1
  go_wp2_with fail
  with_reducible refine (HAW.out _).mono ?_
  rintro e w6 ⟨rfl, e6⟩
  have E6 := hide (Ext.trans E5.out e6)
  clear e6
  go_wp2_with fail
  go_ret
  exact ⟨rfl, E6.out⟩
set_option maxRecDepth 100000 in
theorem boxFragmentsReadMatchSpec_lifted (os : Os) (started : os.Started) (H : Type) (enc : TypeId × Value → H) :
    ReturnsInHanded {} Try.checked os 3 .any (Rows.boxFragmentsReadMatchSpecSpec.pre6 enc Try.prog Try.f3 Rows.boxFragmentsReadMatchSpecRow.domain false) (Rows.boxFragmentsReadMatchSpecSpec.post enc Try.prog Try.f3 false true false false) := by
  refine returnsInHanded_of_change_sized (C := Try.checked) Try.own started (by kernel_rfl) Try.func3
    (ChangeSpec.witness6 (enc := enc) (C := Try.checked) false ⟨#[], #[.slice none 0 0], []⟩ 8 (by kernel_rfl) (by kernel_rfl) (by kernel_rfl) (by kernel_rfl)) ?_
  intro W base args ds gs before hval0 hW _ _ _
  have hval : ∀ (j : Nat) t v, Try.f3.params[j]? = some t → args[j]? = some v → Value.okWide Try.prog W .any base t v := hval0
  have hW' := hW
  obtain ⟨p, q, hA0, hV, rfl, _, _⟩ := hW
  have hA : DataW.TrodAll enc Try.prog W 0 (fun _ => true) true Try.f3.params.toList args.toList ds p := hA0
  rw [Try.params3] at hA hval
  obtain ⟨v0, d0, rfl, rfl, h0⟩ := trodAll_one hA
  obtain ⟨A0, n0, c0, l0, rfl, hAt0, _⟩ := open_bytes (hval 0 22 v0 rfl rfl) h0
  refine (frread_any hAt0).mono fun e W' ⟨he, hE⟩ => ?_
  subst he
  exact ⟨_, rfl, law_post Try.laidOut Try.underlying4 hW' rfl rfl rfl (by kernel_rfl) hE⟩
theorem boxFragmentsReadMatchSpec_closed : joinedFacts Try.prog 3 Try.f3 Rows.boxFragmentsReadMatchSpecSpec Rows.boxFragmentsReadMatchSpecRow = true :=
  joined_of Try.laidOut Try.mapsRowed Try.plainKeys Try.stopsHeard Try.stopsNone Try.knobsNone Try.mayEnter Try.makeCut Try.liftsFinal rfl rfl rfl (by as_aux_lemma => kernel_rfl)
    (by as_aux_lemma => kernel_rfl) (by as_aux_lemma => kernel_rfl) (by as_aux_lemma => kernel_rfl) (by as_aux_lemma => kernel_rfl) (by as_aux_lemma => kernel_rfl) (by as_aux_lemma => kernel_rfl) (by as_aux_lemma => kernel_rfl) (by as_aux_lemma => kernel_rfl) (by as_aux_lemma => kernel_rfl) (by as_aux_lemma => kernel_rfl)
theorem boxFragmentsReadMatchSpec_holds : Rows.BoxFragmentsReadMatchSpecSaid :=
  OpenClaim.holds_of_wide 3 Try.f3 rfl rfl rfl rfl rfl rfl rfl ⟨rfl, rfl, rfl, rfl, rfl⟩ rfl rfl rfl rfl rfl (by as_aux_lemma => kernel_rfl) Try.func3 boxFragmentsReadMatchSpec_closed
    (of_decide_eq_true (by kernel_rfl)) (by unfold Func.isWrapper; first | (rw [if_pos (by decide +kernel)]; kernel_rfl) | (rw [if_neg (by decide +kernel)]; exact ⟨rfl, rfl⟩))
    (fun os started H enc _ => boxFragmentsReadMatchSpec_lifted os started H enc)
#print axioms boxFragmentsReadMatchSpec_holds
end Go.Proofs.Ytccmbokodifdoaa
