/- The law BoxFragmentsJoin. Conditions: none. -/
import Derived.Test.YtgnmnhlhiiehfaaFrgP
import Derived.Test.YtgnmnhlhiiehfaaBoxE
import Derived.Test.YtgnmnhlhiiehfaaOpenS
import Derived.Test.YtgnmnhlhiiehfaaLawG
import Derived.Deep.RegionHeld3
import Derived.Deep.DrawnRows
import Derived.Lib.MinMax
namespace Go.Proofs.Ytgnmnhlhiiehfaa
open Go.ChangeShapes Go.WideShapes Go.ChangeAt Go.RowKit
set_option linter.unusedVariables false in
set_option maxRecDepth 100000 in
set_option maxHeartbeats 8000000 in
theorem fjoin_any {A : Option Addr} {m c : Nat} {l : List Smp} {n : Int} {w : World} (h : At w 5 eSm A m c l) (hn : -9223372036854775808 ≤ n ∧ n ≤ 9223372036854775807) :
    Calls Try.prog 4 #[.slice A m c, .int .i64 n] w fun e w' => e = .returned (.bool true) ∧ Ext w w' := by
  have HAW := hide (fun (W : World) => awake_any W)
  by_cases hF : frgF n l = 0
  · obtain ⟨hs0, hr⟩ : smpF l = 0 ∧ ¬ (n < 1 ∨ 5000 < n) := by
      unfold frgF at hF
      by_cases h0 : smpF l = 0
      · refine ⟨h0, fun hr => ?_⟩
        rw [if_neg (by omega), if_pos hr] at hF; omega
      · rw [if_pos h0] at hF; exact absurd hF h0
    obtain ⟨nn, rfl⟩ : ∃ nn : Nat, n = (nn : Int) := ⟨n.toNat, by omega⟩
    have hn1 : 1 ≤ nn ∧ nn ≤ 5000 := by omega
    have HFR := hide (keyFragments_ok h hs0 hn1)
    have hl := h.len
    have hm5 : m ≤ 5000 := by have := (smpF_zero hs0).1; omega
    have HS0 := hide hs0
    have H := hide h
    have HL := hide hl
    clear h hl hs0 hr hF hn
    go_enter Try.func4, Try.ntmps4
    go_wp2_with fail
    with_reducible refine HFR.out.mono ?_
    rintro e w1 ⟨e1, N, c2, j, rfl, hfr, hj1, hj2⟩
    have E1 := hide e1
    have HJ := hide (And.intro hj1 hj2)
    have hj5 : j ≤ 5000 := by
      rcases hj2 with h | h
      · omega
      · have : j - 1 ≤ (j - 1) * nn := Nat.le_mul_of_pos_right _ (by omega)
        have := HL.out
        omega
    have hfl : flS (frL nn l j) = l := by rw [frL_flat, List.take_of_length_le hj1]
    have hlj := frL_len nn l j
    have HJN := hide (fun (W : World) (hW : Ext w1 W) => keyJoined_ok (L := frL nn l j) (hfr.good (fun k hk => hW.block k hk.2) (fun _ hk => hk)) (by rw [hlj]; exact hj5) (fun i hi => by rw [frL_get (by omega)]; push_cast; rfl)
      (fun i hi => by rw [frL_get (by omega)]; exact smpF_part HS0.out _ _) (by rw [hfl]; exact HS0.out))
    rw [hfl] at HJN
    obtain ⟨hs, h1, h2, h3, h4⟩ := hfr
    have H1 := hide h1
    have HEL : Hid (∀ i, i < j → (hs.getD i default).num = ((i : Nat) : Int) + 1 ∧ (hs.getD i default).sn = min nn (m - i * nn) ∧ i * nn < m) := hide (fun i hi => by
      have hi1 : i < hs.length := by omega
      have hi2 : i < (frL nn l j).length := by omega
      have hk := h4 i _ _ (List.getElem?_eq_getElem hi1) (List.getElem?_eq_getElem hi2)
      have hg : (frL nn l j)[i] = (((i + 1 : Nat) : Int), (l.drop (i * nn)).take nn) := by
        have := frL_get (n := nn) (l := l) hi
        rw [List.getD_eq_getElem?_getD, List.getElem?_eq_getElem hi2] at this
        exact this
      rw [hg] at hk
      have hq : hs.getD i default = hs[i] := by rw [List.getD_eq_getElem?_getD, List.getElem?_eq_getElem hi1]; rfl
      rw [hq]
      refine ⟨by rw [hk.1]; push_cast; rfl, ?_, ?_⟩
      · have := hk.2.1.len
        rw [List.length_take, List.length_drop, HL.out] at this
        omega
      · have := HL.out
        rcases hj2 with h | h
        · omega
        · have : i * nn ≤ (j - 1) * nn := Nat.mul_le_mul_right _ (by omega)
          omega)
    clear e1 hj1 hj2 hfl hlj h1 h2 h3 h4
    go_wp2_with fail
    go_loopw [7] (fun ri wr => ∃ k : Nat, k ≤ j ∧ ri = .int .i64 k ∧ Hid (Ext w1 wr)) (fun ri _ => j - (intOf ri).toNat)
    case atStart => exact ⟨0, by omega, rfl, hide (Ext.refl _)⟩
    case round =>
      obtain ⟨k, hk, rfl, HX⟩ := hrel
      by_cases hlt : k < j
      · obtain ⟨b, off, rfl, _⟩ := H1.out.addr (by omega)
        have hat := H1.out.ext HX.out
        have a0 := hat.cellK hlt default 0 _ rfl
        have a1 := hat.cellK hlt default 1 _ rfl
        obtain ⟨q1, q2, q3⟩ := HEL.out k hlt
        rw [Nat.add_zero, q1] at a0
        generalize (hs.getD k default).sA = sA at *
        generalize (hs.getD k default).sn = sn at *
        generalize (hs.getD k default).sc = sc at *
        obtain ⟨pk, hpk⟩ : ∃ pk, pk = k * nn := ⟨_, rfl⟩
        rw [← hpk] at q2 q3
        have hpi : (k : Int) * (nn : Int) = (pk : Int) := by rw [hpk]; push_cast; rfl
        have p1 : IntKind.i64.wrap ((k : Int) * (nn : Int)) = (pk : Int) := by rw [hpi, IntKind.wrap_i64]; omega
        have p2 : IntKind.i64.wrap ((m : Int) - (pk : Int)) = (m : Int) - (pk : Int) := by rw [IntKind.wrap_i64]; omega
        have p3 : min (nn : Int) ((m : Int) - (pk : Int)) = (sn : Int) := by omega
        have p4 : ((k : Int) + 1 != (k : Int) + 1) = false := by simp
        have p5 : ((sn : Int) != (sn : Int)) = false := by simp
        have i0 : (k : Int) < (j : Int) := by omega
        have i8 : IntKind.i64.wrap ((k : Int) + 1) = (k : Int) + 1 := by rw [IntKind.wrap_i64]; omega
        clear hat q1 q2 q3 hpk hpi
        go_wp2_with fail
        exact ⟨⟨k + 1, by omega, by go_num, HX⟩, by simp [intOf]; omega⟩
      · obtain rfl : k = j := by omega
        clear hlt
        go_wp2_with fail
        with_reducible refine (HJN.out _ HX.out).mono ?_
        rintro e w4 ⟨e4, N4, c4, rfl, o4⟩
        have HX4 : Hid (Ext w w4) := hide (Ext.trans E1.out (Ext.trans HX.out e4))
        have HSE := hide (smpEq_true (H.out.ext HX4.out) (o4.atS len_eSm))
        generalize l.length = ll at *
        clear e4 o4
        go_wp2_with fail
        with_reducible refine HSE.out.mono ?_
        rintro e w5 ⟨rfl, e5⟩
        have E5 := hide e5
        clear e5
        go_wp2_with fail
        with_reducible refine (HAW.out _).mono ?_
        rintro e w6 ⟨rfl, e6⟩
        have E6 := hide e6
        clear e6
        go_wp2_with fail
        go_ret
        exact ⟨rfl, Ext.trans HX4.out (Ext.trans E5.out E6.out)⟩
  · have HFR := hide (keyFragments_no h hF)
    generalize frgF n l = fl at *
    have d0 : (fl != 0) = true := by simp [hF]
    clear h hF
    go_enter Try.func4, Try.ntmps4
    go_wp2_with fail
    with_reducible refine HFR.out.mono ?_
    rintro e w1 ⟨rfl, e1⟩
    have E1 := hide e1
    clear e1
    go_wp2_with fail
    with_reducible refine (HAW.out _).mono ?_
    rintro e w2 ⟨rfl, e2⟩
    have E2 := hide e2
    clear e2
    go_wp2_with fail
    go_ret
    exact ⟨rfl, Ext.trans E1.out E2.out⟩
set_option maxRecDepth 100000 in
theorem boxFragmentsJoin_lifted (os : Os) (started : os.Started) (H : Type) (enc : TypeId × Value → H) :
    ReturnsInHanded {} Try.checked os 4 .any (Rows.boxFragmentsJoinSpec.pre6 enc Try.prog Try.f4 Rows.boxFragmentsJoinRow.domain false) (Rows.boxFragmentsJoinSpec.post enc Try.prog Try.f4 false true false false) := by
  refine returnsInHanded_of_change_sized (C := Try.checked) Try.own started (by kernel_rfl) Try.func4
    (ChangeSpec.witness6 (enc := enc) (C := Try.checked) false ⟨#[], #[.slice none 0 0, .int .i64 0], []⟩ 8 (by kernel_rfl) (by kernel_rfl) (by kernel_rfl) (by kernel_rfl)) ?_
  intro W base args ds gs before hval0 hW _ _ _
  have hval : ∀ (j : Nat) t v, Try.f4.params[j]? = some t → args[j]? = some v → Value.okWide Try.prog W .any base t v := hval0
  have hW' := hW
  obtain ⟨p, q, hA0, hV, rfl, _, _⟩ := hW
  have hA : DataW.TrodAll enc Try.prog W 0 (fun _ => true) true Try.f4.params.toList args.toList ds p := hA0
  rw [Try.params4] at hA hval
  obtain ⟨v0, v1, d0, d1, p0, p1, rfl, rfl, rfl, h0, h1⟩ := trodAll_two hA
  obtain ⟨A0, n0, c0, l0, rfl, hAt0, _, _⟩ := open_samples (hval 0 30 v0 rfl rfl) h0
  obtain ⟨x1, rfl, rfl, rfl, w1⟩ := open_int Try.underlying3 (hval 1 3 v1 rfl rfl) h1
  refine (fjoin_any hAt0 (wf_i64 w1)).mono fun e W' ⟨he, hE⟩ => ?_
  subst he
  exact ⟨_, rfl, law_post Try.laidOut Try.underlying4 hW' rfl rfl rfl (by kernel_rfl) hE⟩
theorem boxFragmentsJoin_closed : joinedFacts Try.prog 4 Try.f4 Rows.boxFragmentsJoinSpec Rows.boxFragmentsJoinRow = true :=
  joined_of Try.laidOut Try.mapsRowed Try.plainKeys Try.stopsHeard Try.stopsNone Try.knobsNone Try.mayEnter Try.makeCut Try.liftsFinal rfl rfl rfl (by as_aux_lemma => kernel_rfl)
    (by as_aux_lemma => kernel_rfl) (by as_aux_lemma => kernel_rfl) (by as_aux_lemma => kernel_rfl) (by as_aux_lemma => kernel_rfl) (by as_aux_lemma => kernel_rfl) (by as_aux_lemma => kernel_rfl) (by as_aux_lemma => kernel_rfl) (by as_aux_lemma => kernel_rfl) (by as_aux_lemma => kernel_rfl) (by as_aux_lemma => kernel_rfl)
theorem boxFragmentsJoin_holds : Rows.BoxFragmentsJoinSaid :=
  OpenClaim.holds_of_wide 4 Try.f4 rfl rfl rfl rfl rfl rfl rfl ⟨rfl, rfl, rfl, rfl, rfl⟩ rfl rfl rfl rfl rfl (by as_aux_lemma => kernel_rfl) Try.func4 boxFragmentsJoin_closed
    (of_decide_eq_true (by kernel_rfl)) (by unfold Func.isWrapper; first | (rw [if_pos (by decide +kernel)]; kernel_rfl) | (rw [if_neg (by decide +kernel)]; exact ⟨rfl, rfl⟩))
    (fun os started H enc _ => boxFragmentsJoin_lifted os started H enc)
#print axioms boxFragmentsJoin_holds
end Go.Proofs.Ytgnmnhlhiiehfaa
