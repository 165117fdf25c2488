/- Proved: for all bytes BoxParsesMatchSpec returns true: Parse of the program and of the document give the same boxes, the same place and the same fault. Conditions: none. -/
import Derived.Test.YtgnmnhlhiiehfaaBoxE
import Derived.Test.YtgnmnhlhiiehfaaRefB
import Derived.Test.YtgnmnhlhiiehfaaSamB
import Derived.Test.YtgnmnhlhiiehfaaLawG
namespace Go.Proofs.Ytgnmnhlhiiehfaa
open Go.ChangeShapes Go.WideShapes Go.ChangeAt Go.RowKit
set_option maxRecDepth 100000 in
theorem open_bytes {H : Type} {enc : TypeId × Value → H} {W : World} {base : Nat} {v : Value} {d : DataW H} {p : List MemPlace} (hv : Value.okWide Try.prog W .any base 22 v) (h : DataW.Trod enc Try.prog W 0 (fun _ => true) true 22 v d p) :
    ∃ A n c l, v = .slice A n c ∧ At W 1 e8 A n c l ∧ Takes d c := open_bytesP Try.underlying22 Try.underlying5 (by kernel_rfl) hv h
set_option maxRecDepth 100000 in
set_option maxHeartbeats 4000000 in
theorem parses_any {A : Option Addr} {n c : Nat} {b : List UInt8} {w : World} (h : At w 1 e8 A n c b) :
    Calls Try.prog 3 #[.slice A n c] w fun e w' => e = .returned (.bool true) ∧ Ext w w' := by
  have HK := hide (keyParse_any h)
  have HR := hide (fun (W : World) (hW : Ext w W) => refParse_any (h.ext hW))
  have HAW := hide (fun (W : World) => awake_any W)
  clear h
  cases hq : parseF b with
  | err a f =>
    rw [hq] at HK HR
    clear hq
    go_enter Try.func3, Try.ntmps3
    go_wp2_with fail
    with_reducible refine HK.out.mono ?_
    rintro e w1 ⟨e1, herr, _⟩
    have he := herr _ _ rfl
    subst he
    have E1 := hide e1
    clear herr e1
    go_wp2_with fail
    with_reducible refine (HR.out _ E1.out).mono ?_
    rintro e w2 ⟨e2, herr, _⟩
    have he := herr _ _ rfl
    subst he
    have E2 := hide (Ext.trans E1.out e2)
    have HS := hide (same_any _ (Nat.le_refl _) (BxsAt.nil w2 (fun _ => True)) (BxsAt.nil w2 (fun _ => True)) (fun _ _ => trivial))
    clear herr e2
    go_wp2_with fail
    with_reducible refine HS.out.mono ?_
    rintro e w3 ⟨rfl, m3, e3⟩
    have E3 : Hid (Ext w w3) := hide (by rw [e3]; exact Ext.trans E2.out (Ext.drewN _ _))
    clear e3
    go_wp2_with fail
    with_reducible refine (HAW.out _).mono ?_
    rintro e w4 ⟨rfl, e4⟩
    have E4 := hide (Ext.trans E3.out e4)
    clear e4
    go_wp2_with fail
    go_ret
    exact ⟨rfl, E4.out⟩
  | ok l cc =>
    rw [hq] at HK HR
    clear hq
    go_enter Try.func3, Try.ntmps3
    go_wp2_with fail
    with_reducible refine HK.out.mono ?_
    rintro e w1 ⟨e1, _, hok⟩
    obtain ⟨N1, c1, he, hb1⟩ := hok _ _ rfl
    subst he
    have E1 := hide e1
    have B1 := hide hb1
    clear hok e1 hb1
    go_wp2_with fail
    with_reducible refine (HR.out _ E1.out).mono ?_
    rintro e w2 ⟨e2, _, hok⟩
    obtain ⟨N2, c2, he, hb2⟩ := hok _ _ rfl
    subst he
    have E2 := hide (Ext.trans E1.out e2)
    have HS := hide (same_any _ (Nat.le_refl _) (B1.out.good (w' := w2) (fun k hk => e2.block k hk.2) (fun _ hk => hk)) hb2 (fun _ _ => trivial))
    clear hok e2 hb2
    go_wp2_with fail
    with_reducible refine HS.out.mono ?_
    rintro e w3 ⟨rfl, m3, e3⟩
    have E3 : Hid (Ext w w3) := hide (by rw [e3]; exact Ext.trans E2.out (Ext.drewN _ _))
    clear e3
    go_wp2_with fail
    with_reducible refine (HAW.out _).mono ?_
    rintro e w4 ⟨rfl, e4⟩
    have E4 := hide (Ext.trans E3.out e4)
    clear e4
    go_wp2_with fail
    go_ret
    exact ⟨rfl, E4.out⟩
set_option maxRecDepth 100000 in
theorem boxParsesMatchSpec_lifted (os : Os) (started : os.Started) (H : Type) (enc : TypeId × Value → H) :
    ReturnsInHanded {} Try.checked os 3 .any (Rows.boxParsesMatchSpecSpec.pre6 enc Try.prog Try.f3 Rows.boxParsesMatchSpecRow.domain false) (Rows.boxParsesMatchSpecSpec.post enc Try.prog Try.f3 false true false false) := by
  refine returnsInHanded_of_change_sized (C := Try.checked) Try.own started (by kernel_rfl) Try.func3
    (ChangeSpec.witness6 (enc := enc) (C := Try.checked) false ⟨#[], #[.slice none 0 0], []⟩ 8 (by kernel_rfl) (by kernel_rfl) (by kernel_rfl) (by kernel_rfl)) ?_
  intro W base args ds gs before hval0 hW _ _ _
  have hval : ∀ (j : Nat) t v, Try.f3.params[j]? = some t → args[j]? = some v → Value.okWide Try.prog W .any base t v := hval0
  have hW' := hW
  obtain ⟨p, q, hA0, hV, rfl, _, _⟩ := hW
  have hA : DataW.TrodAll enc Try.prog W 0 (fun _ => true) true Try.f3.params.toList args.toList ds p := hA0
  rw [Try.params3] at hA hval
  obtain ⟨v0, d0, rfl, rfl, h0⟩ := trodAll_one hA
  obtain ⟨A0, n0, c0, l0, rfl, hAt0, _⟩ := open_bytes (hval 0 22 v0 rfl rfl) h0
  refine (parses_any hAt0).mono fun e W' ⟨he, hE⟩ => ?_
  subst he
  exact ⟨_, rfl, law_post Try.laidOut Try.underlying4 hW' rfl rfl rfl (by kernel_rfl) hE⟩
theorem boxParsesMatchSpec_closed : joinedFacts Try.prog 3 Try.f3 Rows.boxParsesMatchSpecSpec Rows.boxParsesMatchSpecRow = true :=
  joined_of Try.laidOut Try.mapsRowed Try.plainKeys Try.stopsHeard Try.stopsNone Try.knobsNone Try.mayEnter Try.makeCut Try.liftsFinal rfl rfl rfl (by as_aux_lemma => kernel_rfl)
    (by as_aux_lemma => kernel_rfl) (by as_aux_lemma => kernel_rfl) (by as_aux_lemma => kernel_rfl) (by as_aux_lemma => kernel_rfl) (by as_aux_lemma => kernel_rfl) (by as_aux_lemma => kernel_rfl) (by as_aux_lemma => kernel_rfl) (by as_aux_lemma => kernel_rfl) (by as_aux_lemma => kernel_rfl) (by as_aux_lemma => kernel_rfl)
theorem boxParsesMatchSpec_holds : Rows.BoxParsesMatchSpecSaid :=
  OpenClaim.holds_of_wide 3 Try.f3 rfl rfl rfl rfl rfl rfl rfl ⟨rfl, rfl, rfl, rfl, rfl⟩ rfl rfl rfl rfl rfl (by as_aux_lemma => kernel_rfl) Try.func3 boxParsesMatchSpec_closed
    (of_decide_eq_true (by kernel_rfl)) (by unfold Func.isWrapper; first | (rw [if_pos (by decide +kernel)]; kernel_rfl) | (rw [if_neg (by decide +kernel)]; exact ⟨rfl, rfl⟩))
    (fun os started H enc _ => boxParsesMatchSpec_lifted os started H enc)
#print axioms boxParsesMatchSpec_holds
end Go.Proofs.Ytgnmnhlhiiehfaa
