/- Proved: for all seats, asks, users and times KeyLeasesMatchSpec returns true: CheckSeats, Lease and Watching of the program and of the document give the same, with all errors; the arguments read as they did. Conditions: none. -/
import Derived.Test.YtfpmjaeehhegcaaOpenS
namespace Go.Proofs.Ytfpmjaeehhegcaa
open Go.ChangeShapes Go.WideShapes Go.ChangeAt Go.RowKit

set_option maxRecDepth 100000 in
set_option maxHeartbeats 4000000 in
theorem leasesLaw_any {A1 A2 : Option Addr} {n1 c1 n2 c2 : Nat} {L : List SeatV} {Q : List AskV} {w : World} (h1 : At w 3 eS A1 n1 c1 L) (hg : ∀ x ∈ L, okS x) (h2 : At w 4 eA A2 n2 c2 Q) (hq : ∀ x ∈ Q, okA x) (u : ByteArray) (hu : u.size ≤ maxLen) (t : Int) :
    Calls Try.prog 4 #[.slice A1 n1 c1, .slice A2 n2 c2, .string u, .int .i64 t] w fun e w' => e = .returned (.bool true) ∧ Ext w w' := by
  have H1 := hide h1; have H2 := hide h2
  have HG := hide hg; have HQ := hide hq; have HU := hide hu
  clear h1 h2 hg hq hu
  go_enter Try.func4, Try.ntmps4
  go_wp2_with fail
  refine (keyLease_any H1.out HG.out H2.out HQ.out).mono ?_
  rintro e w1 ⟨A4, k4, c4, rfl, a4, e4⟩
  have E1 := hide e4
  have X1 := hide a4
  clear a4 e4
  go_wp2_with fail
  refine (refLease_any (H1.out.ext E1.out) HG.out (H2.out.ext E1.out) HQ.out).mono ?_
  rintro e w2 ⟨A5, k5, c5, rfl, a5, e5⟩
  have Y1 := hide (X1.out.ext e5)
  have X2 := hide a5
  have E2 := hide (Ext.trans E1.out e5)
  clear a5 e5 X1 E1
  generalize asksF L Q = f1 at *
  go_wp2_with fail
  have HK := hide (fun (W : World) (hW : Ext w W) => keySeats_any (H1.out.ext hW) HG.out)
  have HR := hide (fun (W : World) (hW : Ext w W) => refSeats_any (H1.out.ext hW) HG.out)
  generalize seatsF L = f2 at *
  refine (HK.out _ E2.out).mono ?_
  rintro e w3 ⟨rfl, e3⟩
  have E3 := hide (Ext.trans E2.out e3)
  have Y3 := hide (Y1.out.ext e3)
  have X3 := hide (X2.out.ext e3)
  clear e3 E2 Y1 X2
  go_wp2_with fail
  refine (HR.out _ E3.out).mono ?_
  rintro e w4 ⟨rfl, e4⟩
  have E4 := hide (Ext.trans E3.out e4)
  have Y4 := hide (Y3.out.ext e4)
  have X4 := hide (X3.out.ext e4)
  clear e4 E3 Y3 X3 HK HR
  go_wp2_with fail
  refine (leasesEq_true Y4.out X4.out).mono ?_
  rintro e w5 ⟨rfl, e5⟩
  have E5 := hide (Ext.trans E4.out e5)
  clear X4 Y4 e5 E4
  go_wp2_with fail
  refine (keyWatching_any (H1.out.ext E5.out) HG.out (H2.out.ext E5.out) HQ.out u HU.out t).mono ?_
  rintro e w6 ⟨rfl, e6⟩
  have E6 := hide (Ext.trans E5.out e6)
  clear e6 E5
  go_wp2_with fail
  refine (refWatching_any (H1.out.ext E6.out) HG.out (H2.out.ext E6.out) HQ.out u HU.out t).mono ?_
  rintro e w7 ⟨rfl, e7⟩
  have E7 := hide (Ext.trans E6.out e7)
  clear e7 E6
  generalize watchV L Q u t = v1 at *
  generalize watchF L Q u t = v2 at *
  go_wp2_with fail
  refine (awake_any _).mono ?_
  rintro e w8 ⟨rfl, e8⟩
  have E8 := hide (Ext.trans E7.out e8)
  clear e8
  go_wp2
  go_ret
  exact ⟨rfl, E8.out⟩

set_option maxRecDepth 100000 in
theorem keyLeasesMatchSpec_lifted (os : Os) (started : os.Started) (H : Type) (enc : TypeId × Value → H) :
    ReturnsInHanded {} Try.checked os 4 .any (Rows.keyLeasesMatchSpecSpec.pre6 enc Try.prog Try.f4 Rows.keyLeasesMatchSpecRow.domain false) (Rows.keyLeasesMatchSpecSpec.post enc Try.prog Try.f4 false true false false) := by
  refine returnsInHanded_of_change_sized (C := Try.checked) Try.own started (by kernel_rfl) Try.func4
    (ChangeSpec.witness6 (enc := enc) (C := Try.checked) false ⟨#[], #[.slice none 0 0, .slice none 0 0, .string ByteArray.empty, .int .i64 0], []⟩ 8 (by kernel_rfl) (by kernel_rfl) (by kernel_rfl) (by kernel_rfl)) ?_
  intro W base args ds gs before hval0 hW _ _ _
  have hval : ∀ (j : Nat) t v, Try.f4.params[j]? = some t → args[j]? = some v → Value.okWide Try.prog W .any base t v := hval0
  have hW' := hW
  obtain ⟨p, q, hA0, hV, rfl, _, _⟩ := hW
  have hA : DataW.TrodAll enc Try.prog W 0 (fun _ => true) true Try.f4.params.toList args.toList ds p := hA0
  rw [Try.params4] at hA hval
  obtain ⟨v0, v1, v2, v3, d0, d1, d2, d3, p0, p1, p2, p3, rfl, rfl, rfl, h0, h1, h2, h3⟩ := trodAll_four hA
  obtain ⟨A0, n0, c0, l0, rfl, hAt0, hG0, _⟩ := open_seats (hval 0 22 v0 rfl rfl) h0
  obtain ⟨A1, n1, c1, l1, rfl, hAt1, hG1, _⟩ := open_asks (hval 1 23 v1 rfl rfl) h1
  obtain ⟨x2, rfl, _, _, hS2⟩ := Go.ChangeMaps.open_string Try.underlying9 (hval 2 9 v2 rfl rfl) h2
  obtain ⟨x3, rfl, rfl, rfl, w3⟩ := open_int Try.underlying3 (hval 3 3 v3 rfl rfl) h3
  refine (leasesLaw_any hAt0 hG0 hAt1 hG1 x2 hS2 x3).mono fun e W' ⟨he, hE⟩ => ?_
  subst he
  exact ⟨_, rfl, law_post Try.laidOut Try.underlying4 hW' rfl rfl rfl (by kernel_rfl) hE⟩
theorem keyLeasesMatchSpec_closed : joinedFacts Try.prog 4 Try.f4 Rows.keyLeasesMatchSpecSpec Rows.keyLeasesMatchSpecRow = true :=
  joined_of Try.laidOut Try.mapsRowed Try.plainKeys Try.stopsHeard Try.stopsNone Try.knobsNone Try.mayEnter Try.makeCut Try.liftsFinal rfl rfl rfl (by as_aux_lemma => kernel_rfl)
    (by as_aux_lemma => kernel_rfl) (by as_aux_lemma => kernel_rfl) (by as_aux_lemma => kernel_rfl) (by as_aux_lemma => kernel_rfl) (by as_aux_lemma => kernel_rfl) (by as_aux_lemma => kernel_rfl) (by as_aux_lemma => kernel_rfl) (by as_aux_lemma => kernel_rfl) (by as_aux_lemma => kernel_rfl) (by as_aux_lemma => kernel_rfl)
theorem keyLeasesMatchSpec_holds : Rows.KeyLeasesMatchSpecSaid :=
  OpenClaim.holds_of_wide 4 Try.f4 rfl rfl rfl rfl rfl rfl rfl ⟨rfl, rfl, rfl, rfl, rfl⟩ rfl rfl rfl rfl rfl (by as_aux_lemma => kernel_rfl) Try.func4 keyLeasesMatchSpec_closed
    (of_decide_eq_true (by kernel_rfl)) (by unfold Func.isWrapper; first | (rw [if_pos (by decide +kernel)]; kernel_rfl) | (rw [if_neg (by decide +kernel)]; exact ⟨rfl, rfl⟩))
    (fun os started H enc _ => keyLeasesMatchSpec_lifted os started H enc)
#print axioms keyLeasesMatchSpec_holds
end Go.Proofs.Ytfpmjaeehhegcaa
