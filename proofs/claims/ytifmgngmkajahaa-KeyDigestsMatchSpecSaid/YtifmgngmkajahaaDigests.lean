/- Proved: for every slice of bytes KeyDigestsMatchSpec returns true: Digest of the program and of the document are the same function; the argument reads as it did. Conditions: none. -/
import Derived.Test.YtifmgngmkajahaaKeyK
import Derived.Test.YtifmgngmkajahaaLaw
namespace Go.Proofs.Ytifmgngmkajahaa
open Go.ChangeShapes Go.WideShapes Go.ChangeAt Go.RowKit Kc

theorem awake_any (w : World) : Calls Try.prog 23 #[] w fun e w' => e = .returned (.bool true) ∧ Ext w w' := by
  go_enter Try.func23, Try.ntmps23
  go_wp2_with fail
  refine (digest_any (At.nil w 1 e8) (by omega)).mono ?_
  rintro e w1 ⟨g, rfl, _, e1⟩
  have E1 := hide e1
  clear e1
  go_wp2
  go_ret
  exact ⟨rfl, E1.out⟩

set_option maxHeartbeats 400000 in
theorem digests_any {A : Option Addr} {n c : Nat} {l : List UInt8} {w : World} (h : At w 1 e8 A n c l) (hb : n ≤ 140737488351232) :
    Calls Try.prog 3 #[.slice A n c] w fun e w' => e = .returned (.bool true) ∧ Ext w w' := by
  have H := hide h
  clear h
  go_enter Try.func3, Try.ntmps3
  go_wp2_with fail
  refine (digest_any H.out hb).mono ?_
  rintro e w1 ⟨g1, rfl, o1, e1⟩
  have A1 := hide (o1.atS len_e8)
  have E1 := hide e1
  clear o1 e1
  go_wp2_with fail
  refine (refDigest_any (H.out.ext E1.out) hb).mono ?_
  rintro e w2 ⟨g2, c2, rfl, o2, e2⟩
  have A2 := hide (A1.out.ext e2)
  have B2 := hide (o2.atS len_e8)
  have E2 := hide (Ext.trans E1.out e2)
  clear o2 e2
  go_wp2_with fail
  refine (bytesEq_any A2.out B2.out).mono ?_
  rintro e w3 ⟨rfl, rfl⟩
  have hq : (digest l == digest l) = true := by simp
  rw [hq]
  clear hq
  go_wp2_with fail
  refine (awake_any _).mono ?_
  rintro e w4 ⟨rfl, e4⟩
  have E4 := hide (Ext.trans E2.out e4)
  clear e4
  go_wp2
  go_ret
  exact ⟨rfl, E4.out⟩

set_option maxRecDepth 100000 in
theorem digests_lifted (os : Os) (started : os.Started) (H : Type) (enc : TypeId × Value → H) :
    ReturnsInHanded {} Try.checked os 3 .any (Rows.keyDigestsMatchSpecSpec.pre6 enc Try.prog Try.f3 Rows.keyDigestsMatchSpecRow.domain false) (Rows.keyDigestsMatchSpecSpec.post enc Try.prog Try.f3 false true false false) := by
  refine returnsInHanded_of_change_sized (C := Try.checked) Try.own started (by kernel_rfl) Try.func3
    (ChangeSpec.witness6 (enc := enc) (C := Try.checked) false ⟨#[], #[.slice none 0 0], []⟩ 8 (by kernel_rfl) (by kernel_rfl) (by kernel_rfl) (by kernel_rfl)) ?_
  intro W base args ds gs before hval0 hW _ hsz0 _
  have hsz : (DataW.weightsEach Try.prog (Try.f3.params.toList ++ Rows.keyDigestsMatchSpecSpec.plain.varTypes Try.prog) (ds ++ gs)).all (· ≤ reachBytes) = true := hsz0
  have hval : ∀ (j : Nat) t v, Try.f3.params[j]? = some t → args[j]? = some v → Value.okWide Try.prog W .any base t v := hval0
  have hW' := hW
  obtain ⟨p, q, hA0, hV, rfl, _, _⟩ := hW
  have hA : DataW.TrodAll enc Try.prog W 0 (fun _ => true) true Try.f3.params.toList args.toList ds p := hA0
  rw [Try.params3] at hA hval hsz
  obtain ⟨v0, d0, rfl, rfl, h0⟩ := trodAll_one hA
  obtain ⟨A, n, c, l, rfl, hAt, hT⟩ := open_bytes (hval 0 22 v0 rfl rfl) h0
  have hb := reach_bytes hsz 0 rfl rfl hT hAt.le
  refine (digests_any hAt hb).mono fun e W' ⟨he, hE⟩ => ?_
  subst he
  exact ⟨_, rfl, law_post Try.laidOut Try.underlying4 hW' rfl rfl rfl (by kernel_rfl) hE⟩

theorem keyDigests_closed : joinedFacts Try.prog 3 Try.f3 Rows.keyDigestsMatchSpecSpec Rows.keyDigestsMatchSpecRow = true :=
  joined_of Try.laidOut Try.mapsRowed Try.plainKeys Try.stopsHeard Try.stopsNone Try.knobsNone Try.mayEnter Try.makeCut Try.liftsFinal rfl rfl rfl (by as_aux_lemma => kernel_rfl)
    (by as_aux_lemma => kernel_rfl) (by as_aux_lemma => kernel_rfl) (by as_aux_lemma => kernel_rfl) (by as_aux_lemma => kernel_rfl) (by as_aux_lemma => kernel_rfl)
    (by as_aux_lemma => kernel_rfl) (by as_aux_lemma => kernel_rfl) (by as_aux_lemma => kernel_rfl) (by as_aux_lemma => kernel_rfl) (by as_aux_lemma => kernel_rfl)
theorem keyDigests_holds : Rows.KeyDigestsMatchSpecSaid :=
  OpenClaim.holds_of_wide 3 Try.f3 rfl rfl rfl rfl rfl rfl rfl ⟨rfl, rfl, rfl, rfl, rfl⟩ rfl rfl rfl rfl rfl (by as_aux_lemma => kernel_rfl) Try.func3 keyDigests_closed
    (of_decide_eq_true (by kernel_rfl)) (by unfold Func.isWrapper; first | (rw [if_pos (by decide +kernel)]; kernel_rfl) | (rw [if_neg (by decide +kernel)]; exact ⟨rfl, rfl⟩))
    (fun os started H enc _ => digests_lifted os started H enc)
#print axioms keyDigests_holds
end Go.Proofs.Ytifmgngmkajahaa
