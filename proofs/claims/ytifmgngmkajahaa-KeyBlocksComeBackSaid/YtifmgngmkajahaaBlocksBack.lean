/- Proved: for every key and block KeyBlocksComeBack returns true: a block that is encrypted and decrypted, in both orders, is what it was; the arguments read as they did. Conditions: none. -/
import Derived.Test.YtifmgngmkajahaaKeyM
import Derived.Test.YtifmgngmkajahaaPlain
import Derived.Test.YtifmgngmkajahaaAwake
namespace Go.Proofs.Ytifmgngmkajahaa
open Go.ChangeShapes Go.WideShapes Go.ChangeAt Go.RowKit Kc

theorem beq_same (l : List UInt8) : (l == l) = true := by simp

set_option maxHeartbeats 1000000 in
theorem back_ok {A1 A2 : Option Addr} {c1 c2 : Nat} {l m : List UInt8} {w : World} (h1 : At w 1 e8 A1 16 c1 l) (h2 : At w 1 e8 A2 8 c2 m) :
    Calls Try.prog 5 #[.slice A1 16 c1, .slice A2 8 c2] w fun e w' => e = .returned (.bool true) ∧ Ext w w' := by
  have hm := h2.len
  have d1 := decB_encB l m hm
  have d2 := encB_decB l m hm
  have H1 := hide h1; have H2 := hide h2; have D1 := hide d1; have D2 := hide d2
  clear h1 h2 d1 d2 hm
  go_enter Try.func5, Try.ntmps5
  go_wp2_with fail
  refine (keyEncryptBlock_ok H1.out H2.out).mono ?_
  rintro e w1 ⟨g1, rfl, a1, e1⟩
  have X1 := hide a1; have E1 := hide e1
  clear a1 e1
  go_wp2_with fail
  refine (keyDecryptBlock_ok (H1.out.ext E1.out) (H2.out.ext E1.out)).mono ?_
  rintro e w2 ⟨g2, rfl, a2, e2⟩
  have X2 := hide a2; have Y1 := hide (X1.out.ext e2); have E2 := hide (Ext.trans E1.out e2)
  clear a2 e2
  go_wp2_with fail
  refine (awake_any _).mono ?_
  rintro e w7 ⟨rfl, e7⟩
  have X3 := hide (X2.out.ext e7); have Y3 := hide (Y1.out.ext e7); have E7 := hide (Ext.trans E2.out e7)
  clear e7
  go_wp2_with fail
  refine (keyDecryptBlock_ok (H1.out.ext E7.out) Y3.out).mono ?_
  rintro e w4 ⟨g4, rfl, a4, e4⟩
  rw [D1.out] at a4
  have X4 := hide a4; have Y4 := hide (X3.out.ext e4); have E4 := hide (Ext.trans E7.out e4)
  clear a4 e4
  go_wp2_with fail
  refine (keyEncryptBlock_ok (H1.out.ext E4.out) Y4.out).mono ?_
  rintro e w5 ⟨g5, rfl, a5, e5⟩
  rw [D2.out] at a5
  have X5 := hide a5; have Y5 := hide (X4.out.ext e5); have E5 := hide (Ext.trans E4.out e5)
  clear a5 e5
  go_wp2_with fail
  refine (bytesEq_any Y5.out (H2.out.ext E5.out)).mono ?_
  rintro e w6 ⟨rfl, rfl⟩
  rw [beq_same]
  go_wp2_with fail
  refine (bytesEq_any X5.out (H2.out.ext E5.out)).mono ?_
  rintro e w6 ⟨rfl, rfl⟩
  rw [beq_same]
  go_wp2
  go_ret
  exact ⟨rfl, E5.out⟩

set_option maxHeartbeats 1000000 in
theorem back_bad {A1 A2 : Option Addr} {n1 n2 c1 c2 : Nat} {w : World} (h : ¬ (n1 = 16 ∧ n2 = 8)) :
    Calls Try.prog 5 #[.slice A1 n1 c1, .slice A2 n2 c2] w fun e w' => e = .returned (.bool true) ∧ Ext w w' := by
  have H := hide h
  by_cases h1 : n1 = 16
  · have h2 : ((n2 : Int) != 8) = true := neq_b (by omega)
    have h3 : ((n1 : Int) != 16) = false := neq_f (by omega)
    clear h h1
    go_enter Try.func5, Try.ntmps5
    go_wp2_with fail
    refine (keyEncryptBlock_bad H.out).mono ?_
    rintro e w1 ⟨rfl, rfl⟩
    go_wp2_with fail
    refine (keyDecryptBlock_bad H.out).mono ?_
    rintro e w1 ⟨rfl, rfl⟩
    go_wp2_with fail
    refine (awake_any _).mono ?_
    rintro e w7 ⟨rfl, e7⟩
    have E7 := hide e7
    clear e7
    go_wp2
    go_ret
    exact ⟨rfl, E7.out⟩
  · have h3 : ((n1 : Int) != 16) = true := neq_b (by omega)
    clear h h1
    go_enter Try.func5, Try.ntmps5
    go_wp2_with fail
    refine (keyEncryptBlock_bad H.out).mono ?_
    rintro e w1 ⟨rfl, rfl⟩
    go_wp2_with fail
    refine (keyDecryptBlock_bad H.out).mono ?_
    rintro e w1 ⟨rfl, rfl⟩
    go_wp2_with fail
    refine (awake_any _).mono ?_
    rintro e w7 ⟨rfl, e7⟩
    have E7 := hide e7
    clear e7
    go_wp2
    go_ret
    exact ⟨rfl, E7.out⟩

theorem back_any {A1 A2 : Option Addr} {n1 n2 c1 c2 : Nat} {l m : List UInt8} {w : World} (h1 : At w 1 e8 A1 n1 c1 l) (h2 : At w 1 e8 A2 n2 c2 m) :
    Calls Try.prog 5 #[.slice A1 n1 c1, .slice A2 n2 c2] w fun e w' => e = .returned (.bool true) ∧ Ext w w' := by
  by_cases h : n1 = 16 ∧ n2 = 8
  · obtain ⟨rfl, rfl⟩ := h
    exact back_ok h1 h2
  · exact back_bad h

set_option maxRecDepth 100000 in
theorem keyBlocksComeBack_lifted (os : Os) (started : os.Started) (H : Type) (enc : TypeId × Value → H) :
    ReturnsInHanded {} Try.checked os 5 .any (Rows.keyBlocksComeBackSpec.pre6 enc Try.prog Try.f5 Rows.keyBlocksComeBackRow.domain false) (Rows.keyBlocksComeBackSpec.post enc Try.prog Try.f5 false true false false) := by
  refine returnsInHanded_of_change_sized (C := Try.checked) Try.own started (by kernel_rfl) Try.func5
    (ChangeSpec.witness6 (enc := enc) (C := Try.checked) false ⟨#[], #[.slice none 0 0, .slice none 0 0], []⟩ 8 (by kernel_rfl) (by kernel_rfl) (by kernel_rfl) (by kernel_rfl)) ?_
  intro W base args ds gs before hval0 hW _ _ _
  have hval : ∀ (j : Nat) t v, Try.f5.params[j]? = some t → args[j]? = some v → Value.okWide Try.prog W .any base t v := hval0
  have hW' := hW
  obtain ⟨p, q, hA0, hV, rfl, _, _⟩ := hW
  have hA : DataW.TrodAll enc Try.prog W 0 (fun _ => true) true Try.f5.params.toList args.toList ds p := hA0
  rw [Try.params5] at hA hval
  obtain ⟨v0, v1, d0, d1, p0, p1, rfl, rfl, rfl, h0, h1⟩ := trodAll_two hA
  obtain ⟨A0, n0, c0, l0, rfl, hAt0, _⟩ := open_bytes (hval 0 22 v0 rfl rfl) h0
  obtain ⟨A1, n1, c1, l1, rfl, hAt1, _⟩ := open_bytes (hval 1 22 v1 rfl rfl) h1
  refine (back_any hAt0 hAt1).mono fun e W' ⟨he, hE⟩ => ?_
  subst he
  exact ⟨_, rfl, law_post Try.laidOut Try.underlying4 hW' rfl rfl rfl (by kernel_rfl) hE⟩
theorem keyBlocksComeBack_closed : joinedFacts Try.prog 5 Try.f5 Rows.keyBlocksComeBackSpec Rows.keyBlocksComeBackRow = true :=
  joined_of Try.laidOut Try.mapsRowed Try.plainKeys Try.stopsHeard Try.stopsNone Try.knobsNone Try.mayEnter Try.makeCut Try.liftsFinal rfl rfl rfl (by as_aux_lemma => kernel_rfl)
    (by as_aux_lemma => kernel_rfl) (by as_aux_lemma => kernel_rfl) (by as_aux_lemma => kernel_rfl) (by as_aux_lemma => kernel_rfl) (by as_aux_lemma => kernel_rfl) (by as_aux_lemma => kernel_rfl) (by as_aux_lemma => kernel_rfl) (by as_aux_lemma => kernel_rfl) (by as_aux_lemma => kernel_rfl) (by as_aux_lemma => kernel_rfl)
theorem keyBlocksComeBack_holds : Rows.KeyBlocksComeBackSaid :=
  OpenClaim.holds_of_wide 5 Try.f5 rfl rfl rfl rfl rfl rfl rfl ⟨rfl, rfl, rfl, rfl, rfl⟩ rfl rfl rfl rfl rfl (by as_aux_lemma => kernel_rfl) Try.func5 keyBlocksComeBack_closed
    (of_decide_eq_true (by kernel_rfl)) (by unfold Func.isWrapper; first | (rw [if_pos (by decide +kernel)]; kernel_rfl) | (rw [if_neg (by decide +kernel)]; exact ⟨rfl, rfl⟩))
    (fun os started H enc _ => keyBlocksComeBack_lifted os started H enc)
#print axioms keyBlocksComeBack_holds
end Go.Proofs.Ytifmgngmkajahaa
