/- Proved: for every trace, start, number of bits and place PlayEndsAreFirst returns true: up to Ends enough has come, a millisecond before it had not, and what comes in two stretches is what comes in both together; the arguments read as they did. Conditions: none. -/
import Derived.Test.YtekfnkgabepojaaNetD
import Derived.Test.YtekfnkgabepojaaOpen
namespace Go.Proofs.Ytekfnkgabepojaa
open Go.ChangeShapes Go.WideShapes Go.ChangeAt Go.RowKit

theorem endsF_zero {l : List (Int × Int)} {f b : Int} (h : endsF l f b = 0) : trcF l = 0 ∧ (0 ≤ f ∧ f ≤ 2000000000000) ∧ (0 ≤ b ∧ b ≤ 1000000000) := by
  unfold endsF at h
  split at h
  · rename_i h2; exact absurd h h2
  · rename_i h2
    split at h
    · omega
    · exact ⟨Classical.not_not.1 h2, by omega, by omega⟩
/-- What the statement says of a right trace. -/
theorem first_law {l : List (Int × Int)} (hz : trcF l = 0) {f b : Int} (hf : 0 ≤ f ∧ f ≤ 2000000000000) (hb : 0 ≤ b ∧ b ≤ 1000000000) :
    f ≤ endsP l f b ∧ b ≤ camel l f (endsP l f b) ∧ (f < endsP l f b → camel l f (endsP l f b - 1) < b) := by
  obtain ⟨h0, _, hall, _⟩ := trcF_zero hz
  have hok := okT_all hz 0 (by omega)
  rw [List.drop_zero] at hok
  by_cases hb0 : b = 0
  · rw [hb0, endsP_nil]
    exact ⟨by omega, camel_nonneg l f f hok, fun h => by omega⟩
  have hx := (trEl_zero (hall 0 h0)).2.2.1 rfl
  match l, h0 with
  | x :: r, _ =>
    have e : max f x.1 = f := by simp at hx; omega
    have := ends_first r x f b hok (by omega) hb.2 hf.1 hf.2
    rw [e] at this
    exact ⟨by omega, this.2.1, fun _ => this.2.2⟩

set_option maxRecDepth 100000 in
set_option maxHeartbeats 1000000 in
theorem first_bad {A : Option Addr} {n c : Nat} {l : List (Int × Int)} {f b x : Int} {w : World} (h : At w 2 e2 A n c l) (hF : endsF l f b ≠ 0) :
    Calls Try.prog 4 #[.slice A n c, .int .i64 f, .int .i64 b, .int .i64 x] w fun e w' => e = .returned (.bool true) ∧ Ext w w' := by
  have hV : endsV l f b = 0 := by unfold endsV; rw [if_pos hF]
  have K1 := hide (keyEnds_any h f b)
  rw [hV] at K1
  have hb : (endsF l f b != 0) = true := by rw [bne_iff_ne]; exact hF
  generalize endsF l f b = r at *
  clear hF hV h
  go_enter Try.func4, Try.ntmps4
  go_wp2_with fail
  refine K1.out.mono ?_
  rintro e w1 ⟨rfl, e1⟩
  have E1 := hide e1
  clear e1
  go_wp2_with fail
  refine (awake_any _).mono ?_
  rintro e w2 ⟨rfl, e2⟩
  have E2 := hide (Ext.trans E1.out e2)
  clear e2
  go_wp2
  go_ret
  exact ⟨rfl, E2.out⟩
theorem came_ok {l : List (Int × Int)} (hz : trcF l = 0) {f t : Int} (h0 : 0 ≤ f) (h1 : f ≤ t) (h2 : t ≤ 2000000000000) : cameF l f t = 0 ∧ cameV l f t = camel l f t := by
  have hF : cameF l f t = 0 := by unfold cameF; rw [if_neg (by omega), if_neg (by omega)]
  exact ⟨hF, by unfold cameV; rw [if_neg (by omega)]⟩

set_option maxRecDepth 100000 in
set_option maxHeartbeats 4000000 in
theorem first_ok {A : Option Addr} {n c : Nat} {l : List (Int × Int)} {f b x : Int} {w : World} (h : At w 2 e2 A n c l) (hF : endsF l f b = 0) (hx : -9223372036854775808 ≤ x ∧ x ≤ 9223372036854775807) :
    Calls Try.prog 4 #[.slice A n c, .int .i64 f, .int .i64 b, .int .i64 x] w fun e w' => e = .returned (.bool true) ∧ Ext w w' := by
  obtain ⟨hz, hf, hb⟩ := endsF_zero hF
  have hV : endsV l f b = endsP l f b := by unfold endsV; rw [if_neg (by omega)]
  obtain ⟨q1, q2, q3⟩ := first_law hz hf hb
  have K1 := hide (keyEnds_any h f b)
  rw [hV, hF] at K1
  generalize endsP l f b = E at *
  have H := hide h
  have HZ := hide hz
  clear h hF hV hz
  by_cases hE : 2000000000000 < E
  · clear q3 q2
    go_enter Try.func4, Try.ntmps4
    go_wp2_with fail
    refine K1.out.mono ?_
    rintro e w1 ⟨rfl, e1⟩
    have E1 := hide e1
    clear e1
    go_wp2_with fail
    refine (awake_any _).mono ?_
    rintro e w2 ⟨rfl, e2⟩
    have E2 := hide (Ext.trans E1.out e2)
    clear e2
    go_wp2
    go_ret
    exact ⟨rfl, E2.out⟩
  have hE' : E ≤ 2000000000000 := by omega
  clear hE
  have hbw := fun W : World => below_any x (E - f + 1) (by omega) (by omega) hx W
  have m0 : 0 ≤ x % (E - f + 1) := Int.emod_nonneg _ (by omega)
  have m1 : x % (E - f + 1) < E - f + 1 := Int.emod_lt_of_pos _ (by omega)
  obtain ⟨m, hm⟩ : ∃ m, m = x % (E - f + 1) := ⟨_, rfl⟩
  rw [← hm] at hbw m0 m1
  have HBW := hide hbw
  have hok := okT_all HZ.out 0 (by omega)
  rw [List.drop_zero] at hok
  have HADD := hide (camel_add l f (f + m) E hok (by omega) (by omega))
  have KA := hide (fun W (hx : Ext w W) => keyCame_any (H.out.ext hx) f E)
  obtain ⟨a1, a2⟩ := came_ok HZ.out hf.1 q1 hE'
  rw [a1, a2] at KA
  have KM := hide (fun W (hx : Ext w W) => keyCame_any (H.out.ext hx) f (f + m))
  obtain ⟨b1, b2⟩ := came_ok HZ.out hf.1 (show f ≤ f + m by omega) (by omega)
  rw [b1, b2] at KM
  have KN := hide (fun W (hx : Ext w W) => keyCame_any (H.out.ext hx) (f + m) E)
  obtain ⟨c1, c2⟩ := came_ok HZ.out (show 0 ≤ f + m by omega) (show f + m ≤ E by omega) hE'
  rw [c1, c2] at KN
  have KP := hide (fun (hlt : f < E) W (hx : Ext w W) => show Calls Try.prog 8 #[.slice A n c, .int .i64 f, .int .i64 (E - 1)] W fun e w' => e = .returned (.tuple #[.int .i64 (camel l f (E - 1)), .int .i64 0]) ∧ Ext W w' by
    have := keyCame_any (H.out.ext hx) f (E - 1)
    obtain ⟨d1, d2⟩ := came_ok HZ.out hf.1 (show f ≤ E - 1 by omega) (by omega)
    rwa [d1, d2] at this)
  have ba := camel_bd HZ.out hf.1 (show f ≤ f + m by omega) (by omega) 0 (by omega)
  have bb := camel_bd HZ.out (show 0 ≤ f + m by omega) (show f + m ≤ E by omega) hE' 0 (by omega)
  rw [List.drop_zero] at ba bb
  generalize camel l f E = cE at *
  generalize camel l f (f + m) = cM at *
  generalize camel l (f + m) E = cN at *
  generalize camel l f (E - 1) = cP at *
  clear a1 a2 b1 b2 c1 c2 hbw hm hok hx
  have HQ := hide q3
  clear q3
  go_enter Try.func4, Try.ntmps4
  go_wp2_with fail
  refine K1.out.mono ?_
  rintro e w1 ⟨rfl, e1⟩
  have E1 := hide e1
  clear e1
  go_wp2_with fail
  refine (KA.out _ E1.out).mono ?_
  rintro e w2 ⟨rfl, e2⟩
  have E2 := hide (Ext.trans E1.out e2)
  clear e2
  go_wp2_with fail
  refine (awake_any _).mono ?_
  rintro e w3 ⟨rfl, e3⟩
  have E3 := hide (Ext.trans E2.out e3)
  clear e3
  by_cases hlt : f < E
  · have hcp := HQ.out hlt
    go_wp2_with fail
    refine (KP.out hlt _ E3.out).mono ?_
    rintro e w4 ⟨rfl, e4⟩
    have E4 := hide (Ext.trans E3.out e4)
    clear e4
    go_wp2_with fail
    refine (HBW.out _).mono ?_
    rintro e w5 ⟨rfl, rfl⟩
    go_wp2_with fail
    refine (KM.out _ E4.out).mono ?_
    rintro e w6 ⟨rfl, e6⟩
    have E6 := hide (Ext.trans E4.out e6)
    clear e6
    go_wp2_with fail
    refine (KN.out _ E6.out).mono ?_
    rintro e w7 ⟨rfl, e7⟩
    have E7 := hide (Ext.trans E6.out e7)
    clear e7
    have hadd := HADD.out
    have i1 : (cM + cN == cE) = true := by simp; omega
    clear hadd
    go_wp2
    go_ret
    exact ⟨rfl, E7.out⟩
  · have E4 := E3
    go_wp2_with fail
    refine (HBW.out _).mono ?_
    rintro e w5 ⟨rfl, rfl⟩
    go_wp2_with fail
    refine (KM.out _ E4.out).mono ?_
    rintro e w6 ⟨rfl, e6⟩
    have E6 := hide (Ext.trans E4.out e6)
    clear e6
    go_wp2_with fail
    refine (KN.out _ E6.out).mono ?_
    rintro e w7 ⟨rfl, e7⟩
    have E7 := hide (Ext.trans E6.out e7)
    clear e7
    have hadd := HADD.out
    have i1 : (cM + cN == cE) = true := by simp; omega
    clear hadd
    go_wp2
    go_ret
    exact ⟨rfl, E7.out⟩
theorem endsFirst_any {A : Option Addr} {n c : Nat} {l : List (Int × Int)} {f b x : Int} {w : World} (h : At w 2 e2 A n c l) (hx : -9223372036854775808 ≤ x ∧ x ≤ 9223372036854775807) :
    Calls Try.prog 4 #[.slice A n c, .int .i64 f, .int .i64 b, .int .i64 x] w fun e w' => e = .returned (.bool true) ∧ Ext w w' := by
  by_cases hF : endsF l f b = 0
  · exact first_ok h hF hx
  · exact first_bad h hF

set_option maxRecDepth 100000 in
theorem playEndsAreFirst_lifted (os : Os) (started : os.Started) (H : Type) (enc : TypeId × Value → H) :
    ReturnsInHanded {} Try.checked os 4 .any (Rows.playEndsAreFirstSpec.pre6 enc Try.prog Try.f4 Rows.playEndsAreFirstRow.domain false) (Rows.playEndsAreFirstSpec.post enc Try.prog Try.f4 false true false false) := by
  refine returnsInHanded_of_change_sized (C := Try.checked) Try.own started (by kernel_rfl) Try.func4
    (ChangeSpec.witness6 (enc := enc) (C := Try.checked) false ⟨#[], #[.slice none 0 0, .int .i64 0, .int .i64 0, .int .i64 0], []⟩ 8 (by kernel_rfl) (by kernel_rfl) (by kernel_rfl) (by kernel_rfl)) ?_
  intro W base args ds gs before hval0 hW _ _ _
  have hval : ∀ (j : Nat) t v, Try.f4.params[j]? = some t → args[j]? = some v → Value.okWide Try.prog W .any base t v := hval0
  have hW' := hW
  obtain ⟨p, q, hA0, hV, rfl, _, _⟩ := hW
  have hA : DataW.TrodAll enc Try.prog W 0 (fun _ => true) true Try.f4.params.toList args.toList ds p := hA0
  rw [Try.params4] at hA hval
  obtain ⟨v0, v1, v2, v3, d0, d1, d2, d3, p0, p1, p2, p3, rfl, rfl, rfl, h0, h1, h2, h3⟩ := trodAll_four hA
  obtain ⟨A0, n0, c0, l0, rfl, hAt0, _, _⟩ := open_flows (hval 0 22 v0 rfl rfl) h0
  obtain ⟨x1, rfl, rfl, rfl, _⟩ := open_int Try.underlying3 (hval 1 3 v1 rfl rfl) h1
  obtain ⟨x2, rfl, rfl, rfl, _⟩ := open_int Try.underlying3 (hval 2 3 v2 rfl rfl) h2
  obtain ⟨x3, rfl, rfl, rfl, w3⟩ := open_int Try.underlying3 (hval 3 3 v3 rfl rfl) h3
  refine (endsFirst_any hAt0 (wf_i64 w3)).mono fun e W' ⟨he, hE⟩ => ?_
  subst he
  exact ⟨_, rfl, law_post Try.laidOut Try.underlying4 hW' rfl rfl rfl (by kernel_rfl) hE⟩
theorem playEndsAreFirst_closed : joinedFacts Try.prog 4 Try.f4 Rows.playEndsAreFirstSpec Rows.playEndsAreFirstRow = true :=
  joined_of Try.laidOut Try.mapsRowed Try.plainKeys Try.stopsHeard Try.stopsNone Try.knobsNone Try.mayEnter Try.makeCut Try.liftsFinal rfl rfl rfl (by as_aux_lemma => kernel_rfl)
    (by as_aux_lemma => kernel_rfl) (by as_aux_lemma => kernel_rfl) (by as_aux_lemma => kernel_rfl) (by as_aux_lemma => kernel_rfl) (by as_aux_lemma => kernel_rfl) (by as_aux_lemma => kernel_rfl) (by as_aux_lemma => kernel_rfl) (by as_aux_lemma => kernel_rfl) (by as_aux_lemma => kernel_rfl) (by as_aux_lemma => kernel_rfl)
theorem playEndsAreFirst_holds : Rows.PlayEndsAreFirstSaid :=
  OpenClaim.holds_of_wide 4 Try.f4 rfl rfl rfl rfl rfl rfl rfl ⟨rfl, rfl, rfl, rfl, rfl⟩ rfl rfl rfl rfl rfl (by as_aux_lemma => kernel_rfl) Try.func4 playEndsAreFirst_closed
    (of_decide_eq_true (by kernel_rfl)) (by unfold Func.isWrapper; first | (rw [if_pos (by decide +kernel)]; kernel_rfl) | (rw [if_neg (by decide +kernel)]; exact ⟨rfl, rfl⟩))
    (fun os started H enc _ => playEndsAreFirst_lifted os started H enc)
#print axioms playEndsAreFirst_holds
end Go.Proofs.Ytekfnkgabepojaa
