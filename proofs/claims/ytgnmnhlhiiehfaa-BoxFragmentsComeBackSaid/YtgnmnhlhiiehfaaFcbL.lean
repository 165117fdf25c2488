/- Proved: for every fragment and all bytes BoxFragmentsComeBack returns true: a fragment is read as it was written, and bytes of one are written as they were. Conditions: none. -/
import Derived.Test.YtgnmnhlhiiehfaaFcbQ
import Derived.Test.YtgnmnhlhiiehfaaRfA
import Derived.Test.YtgnmnhlhiiehfaaFbyA
import Derived.Test.YtgnmnhlhiiehfaaSamB
import Derived.Test.YtgnmnhlhiiehfaaBoxE
import Derived.Test.YtgnmnhlhiiehfaaOpenS
import Derived.Test.YtgnmnhlhiiehfaaOpens2
import Derived.Test.YtgnmnhlhiiehfaaLawG
import Derived.Lib.SmallJoins
namespace Go.Proofs.Ytgnmnhlhiiehfaa
open Go.ChangeShapes Go.WideShapes Go.ChangeAt Go.RowKit Go.Joins Go.Deep
section
variable {H : Type} {enc : TypeId × Value → H} {W : World} {base : Nat}
set_option maxRecDepth 100000 in
theorem open_bytes {v : Value} {d : DataW H} {p : List MemPlace} (hv : Value.okWide Try.prog W .any base 22 v) (h : DataW.Trod enc Try.prog W 0 (fun _ => true) true 22 v d p) :
    ∃ A n c l, v = .slice A n c ∧ At W 1 e8 A n c l ∧ Takes d c := open_bytesP Try.underlying22 Try.underlying5 (by kernel_rfl) hv h
set_option maxRecDepth 100000 in
theorem open_frag {v : Value} {d : DataW H} {p : List MemPlace} (hv : Value.okWide Try.prog W .any base 35 v) (h : DataW.Trod enc Try.prog W 0 (fun _ => true) true 35 v d p) :
    ∃ num A n c l, v = .agg #[.int .i64 num, .slice A n c] ∧ At W 5 eSm A n c l := by
  obtain ⟨v0, v1, y0, y1, n, rfl, _, _, h0, h1⟩ := open_agg2 Try.underlying35 (by kernel_rfl) (by kernel_rfl) hv h
  obtain ⟨x0, rfl, _⟩ := fldInt Try.underlying3 h0
  obtain ⟨A, m, c, rfl⟩ := fldSlice Try.underlying30 h1
  obtain ⟨d, p⟩ := y1
  obtain ⟨l, h2, _, _⟩ := open_structsQ (sz := 5) Try.underlying30 Try.underlying40 (by kernel_rfl) (by kernel_rfl) rfl (by omega) (decSmp Try.underlying3 Try.underlying3 Try.underlying3 Try.underlying3 Try.underlying4) h1
  exact ⟨x0, A, m, c, l, rfl, h2⟩
end
set_option linter.unusedVariables false in
set_option maxRecDepth 100000 in
set_option maxHeartbeats 8000000 in
theorem frback_any {num : Int} {A : Option Addr} {n c : Nat} {l : List Smp} {B : Option Addr} {m d : Nat} {b : List UInt8} {w : World} (hx : At w 5 eSm A n c l) (hb : At w 1 e8 B m d b) :
    Calls Try.prog 8 #[.agg #[.int .i64 num, .slice A n c], .slice B m d] w fun e w' => e = .returned (.bool true) ∧ Ext w w' := by
  have HAW := hide (fun (W : World) => awake_any W)
  have E0 := hide (Ext.alloc w (.cells #[.int .i64 num, .slice A n c] 35))
  have X0 := hide (Blk.new w 35 #[.int .i64 num, .slice A n c])
  have HFB := hide (keyFbytes_any (num := num) (hx.ext E0.out))
  have HRB := hide (fun (W : World) (hW : Ext w W) => keyReadFrag_any (hb.ext hW))
  have HX := hide hx
  have HBB := hide hb
  have hp0 : (0 : Nat) < 1 := by omega
  clear hx hb hp0
  by_cases hF : fragF num l = 0
  case pos =>
    have HBK := hide (fb_back hF)
    have HL0 : Hid (fbyL num l = fbytes num l) := hide (by unfold fbyL; rw [if_pos hF])
    rw [hF, HL0.out] at HFB
    clear hF HL0
    go_enter Try.func8, Try.ntmps8
    go_wp2_with fail
    with_reducible refine HFB.out.mono ?_
    rintro e w1 ⟨N1, k1, c1, rfl, q1, e1⟩
    have E1 := hide (Ext.trans E0.out e1)
    have X1 := hide (X0.out.ext e1)
    have HRC := hide (keyReadFrag_any q1)
    clear q1 e1 E0 X0 HFB
    go_wp2_with fail
    with_reducible refine HRC.out.mono ?_
    rintro e w2 ⟨e2, N2, k2, c2, he, q2⟩
    obtain ⟨r1, r2, r3, r4⟩ := HBK.out
    rw [r1, r2, r3] at he
    rw [r4] at q2
    subst he
    have E2 := hide (Ext.trans E1.out e2)
    have X2 := hide (X1.out.ext e2)
    have Q2 := hide q2
    clear q2 e2 E1 X1 HRC r1 r2 r3 r4 HBK
    go_upto_region 4 with (fail)
    refine gen_wpC fun w3 h3 => ?_
    obtain ⟨gy, hgy⟩ : ∃ gy, gy = w2.heap.size := ⟨_, rfl⟩
    rw [← hgy]
    have E3 : Hid (Ext w w3) := hide (by rw [h3]; exact Ext.trans E2.out (Ext.alloc _ _))
    have X3 : Hid (Blk w3 w.heap.size 35 #[.int .i64 num, .slice A n c]) := hide (by rw [h3]; exact X2.out.alloc _)
    have Y3 : Hid (Blk w3 gy 35 #[.int .i64 num, .slice N2 k2 c2]) := hide (by rw [h3, hgy]; exact Blk.new _ _ _)
    have HSE : Hid (Calls Try.prog 15 #[.slice A n c, .slice N2 k2 c2] w3 fun e w' => e = .returned (.bool true) ∧ Ext w3 w') := hide (smpEq_true (HX.out.ext E3.out) (by rw [h3]; exact Q2.out.ext (Ext.alloc _ _)))
    have x0 : w3.cell? ⟨w.heap.size, 0, none⟩ = some (.int .i64 num) := X3.out.cell 0
    have x1 : w3.cell? ⟨w.heap.size, 1, none⟩ = some (.slice A n c) := X3.out.cell 1
    have y0 : w3.cell? ⟨gy, 0, none⟩ = some (.int .i64 num) := Y3.out.cell 0
    have y1 : w3.cell? ⟨gy, 1, none⟩ = some (.slice N2 k2 c2) := Y3.out.cell 1
    have dn : (num != num) = false := by simp
    clear h3 hgy E2 X2 Q2
    go_wp2_with fail
    with_reducible refine HSE.out.mono ?_
    rintro e w4 ⟨rfl, e4⟩
    have E4 := hide (Ext.trans E3.out e4)
    clear e4 x0 x1 y0 y1 E3 X3 Y3 HSE dn
    by_cases hR : rfF b = 0
    · have HAG := hide (fb_again hR)
      have HR := hide hR
      clear hR
      go_wp2_with fail
      with_reducible refine (HRB.out _ E4.out).mono ?_
      rintro e w5 ⟨e5, N5, k5, c5, he, q5⟩
      rw [HR.out] at he
      subst he
      have E5 := hide (Ext.trans E4.out e5)
      have Q5 := hide q5
      clear q5 e5 E4
      generalize rfN b = rn at *
      generalize rfL b = rl at *
      generalize rfA b = ra at *
      have HFB2 := hide (fun (W : World) (hW : Ext w5 W) => (by have := keyFbytes_any (num := rn) (Q5.out.ext hW); rw [HAG.out.1, show fbyL rn rl = b from by unfold fbyL; rw [if_pos HAG.out.1, HAG.out.2]] at this; exact this : Calls Try.prog 24 #[.agg #[.int .i64 rn, .slice N5 k5 c5]] W (Gives 1 e8 W b 0)))
      go_wp2_with fail
      with_reducible refine (HFB2.out _ (Ext.alloc _ _)).mono ?_
      rintro e w6 ⟨N6, k6, c6, rfl, q6, e6⟩
      have E6 := hide (Ext.trans E5.out (Ext.trans (Ext.alloc _ _) e6))
      have HBE := hide (Calls.mono (bytesEq_any (HBB.out.ext E6.out) q6) (fun e w' he => (⟨by rw [he.1]; simp, he.2⟩ : e = .returned (.bool true) ∧ w6 = w')))
      clear q6 e6 E5 Q5 HFB2
      go_wp2_with fail
      with_reducible refine HBE.out.mono ?_
      rintro e w' ⟨rfl, rfl⟩
      go_wp2_with fail
      with_reducible refine (HAW.out _).mono ?_
      rintro e w7 ⟨rfl, e7⟩
      have E7 := hide (Ext.trans E6.out e7)
      clear e7
      go_wp2_with fail
      go_ret
      exact ⟨rfl, E7.out⟩
    · have HRL : Hid (rfL b = []) := hide (by unfold rfL; rw [if_neg hR])
      have d5 : (rfF b != 0) = true := by simp [hR]
      clear hR
      go_wp2_with fail
      with_reducible refine (HRB.out _ E4.out).mono ?_
      rintro e w5 ⟨e5, N5, k5, c5, he, q5⟩
      rw [HRL.out] at q5
      have hk5 : k5 = 0 := by have := q5.len; simpa using this.symm
      subst hk5
      subst he
      have E5 := hide (Ext.trans E4.out e5)
      clear q5 e5 E4
      generalize rfF b = rf at *
      generalize rfN b = rn at *
      generalize rfA b = ra at *
      go_wp2_with fail
      with_reducible refine (HAW.out _).mono ?_
      rintro e w7 ⟨rfl, e7⟩
      have E7 := hide (Ext.trans E5.out (Ext.trans (Ext.alloc _ _) e7))
      clear e7
      go_wp2_with fail
      go_ret
      exact ⟨rfl, E7.out⟩
  case neg =>
    generalize fragF num l = fl at *
    have d0 : (fl == 0) = false := by rw [beq_eq_false_iff_ne]; exact hF
    clear hF
    go_enter Try.func8, Try.ntmps8
    go_wp2_with fail
    with_reducible refine HFB.out.mono ?_
    rintro e w4 ⟨N1, k1, c1, rfl, q1, e1⟩
    have E4 := hide (Ext.trans E0.out e1)
    clear q1 e1 E0 X0 HFB
    by_cases hR : rfF b = 0
    · have HAG := hide (fb_again hR)
      have HR := hide hR
      clear hR
      go_wp2_with fail
      with_reducible refine (HRB.out _ E4.out).mono ?_
      rintro e w5 ⟨e5, N5, k5, c5, he, q5⟩
      rw [HR.out] at he
      subst he
      have E5 := hide (Ext.trans E4.out e5)
      have Q5 := hide q5
      clear q5 e5 E4
      generalize rfN b = rn at *
      generalize rfL b = rl at *
      generalize rfA b = ra at *
      have HFB2 := hide (fun (W : World) (hW : Ext w5 W) => (by have := keyFbytes_any (num := rn) (Q5.out.ext hW); rw [HAG.out.1, show fbyL rn rl = b from by unfold fbyL; rw [if_pos HAG.out.1, HAG.out.2]] at this; exact this : Calls Try.prog 24 #[.agg #[.int .i64 rn, .slice N5 k5 c5]] W (Gives 1 e8 W b 0)))
      go_wp2_with fail
      with_reducible refine (HFB2.out _ (Ext.alloc _ _)).mono ?_
      rintro e w6 ⟨N6, k6, c6, rfl, q6, e6⟩
      have E6 := hide (Ext.trans E5.out (Ext.trans (Ext.alloc _ _) e6))
      have HBE := hide (Calls.mono (bytesEq_any (HBB.out.ext E6.out) q6) (fun e w' he => (⟨by rw [he.1]; simp, he.2⟩ : e = .returned (.bool true) ∧ w6 = w')))
      clear q6 e6 E5 Q5 HFB2
      go_wp2_with fail
      with_reducible refine HBE.out.mono ?_
      rintro e w' ⟨rfl, rfl⟩
      go_wp2_with fail
      with_reducible refine (HAW.out _).mono ?_
      rintro e w7 ⟨rfl, e7⟩
      have E7 := hide (Ext.trans E6.out e7)
      clear e7
      go_wp2_with fail
      go_ret
      exact ⟨rfl, E7.out⟩
    · have HRL : Hid (rfL b = []) := hide (by unfold rfL; rw [if_neg hR])
      have d5 : (rfF b != 0) = true := by simp [hR]
      clear hR
      go_wp2_with fail
      with_reducible refine (HRB.out _ E4.out).mono ?_
      rintro e w5 ⟨e5, N5, k5, c5, he, q5⟩
      rw [HRL.out] at q5
      have hk5 : k5 = 0 := by have := q5.len; simpa using this.symm
      subst hk5
      subst he
      have E5 := hide (Ext.trans E4.out e5)
      clear q5 e5 E4
      generalize rfF b = rf at *
      generalize rfN b = rn at *
      generalize rfA b = ra at *
      go_wp2_with fail
      with_reducible refine (HAW.out _).mono ?_
      rintro e w7 ⟨rfl, e7⟩
      have E7 := hide (Ext.trans E5.out (Ext.trans (Ext.alloc _ _) e7))
      clear e7
      go_wp2_with fail
      go_ret
      exact ⟨rfl, E7.out⟩
set_option maxRecDepth 100000 in
theorem boxFragmentsComeBack_lifted (os : Os) (started : os.Started) (H : Type) (enc : TypeId × Value → H) :
    ReturnsInHanded {} Try.checked os 8 .any (Rows.boxFragmentsComeBackSpec.pre6 enc Try.prog Try.f8 Rows.boxFragmentsComeBackRow.domain false) (Rows.boxFragmentsComeBackSpec.post enc Try.prog Try.f8 false true false false) := by
  refine returnsInHanded_of_change_sized (C := Try.checked) Try.own started (by kernel_rfl) Try.func8
    (ChangeSpec.witness6 (enc := enc) (C := Try.checked) false ⟨#[], #[.agg #[.int .i64 0, .slice none 0 0], .slice none 0 0], []⟩ 8 (by kernel_rfl) (by kernel_rfl) (by kernel_rfl) (by kernel_rfl)) ?_
  intro W base args ds gs before hval0 hW _ _ _
  have hval : ∀ (j : Nat) t v, Try.f8.params[j]? = some t → args[j]? = some v → Value.okWide Try.prog W .any base t v := hval0
  have hW' := hW
  obtain ⟨p, q, hA0, hV, rfl, _, _⟩ := hW
  have hA : DataW.TrodAll enc Try.prog W 0 (fun _ => true) true Try.f8.params.toList args.toList ds p := hA0
  rw [Try.params8] at hA hval
  obtain ⟨v0, v1, d0, d1, p0, p1, rfl, rfl, rfl, h0, h1⟩ := trodAll_two hA
  obtain ⟨num0, A0, n0, c0, l0, rfl, hAt0⟩ := open_frag (hval 0 35 v0 rfl rfl) h0
  obtain ⟨A1, n1, c1, l1, rfl, hAt1, _⟩ := open_bytes (hval 1 22 v1 rfl rfl) h1
  refine (frback_any hAt0 hAt1).mono fun e W' ⟨he, hE⟩ => ?_
  subst he
  exact ⟨_, rfl, law_post Try.laidOut Try.underlying4 hW' rfl rfl rfl (by kernel_rfl) hE⟩
theorem boxFragmentsComeBack_closed : joinedFacts Try.prog 8 Try.f8 Rows.boxFragmentsComeBackSpec Rows.boxFragmentsComeBackRow = true :=
  joined_of Try.laidOut Try.mapsRowed Try.plainKeys Try.stopsHeard Try.stopsNone Try.knobsNone Try.mayEnter Try.makeCut Try.liftsFinal rfl rfl rfl (by as_aux_lemma => kernel_rfl)
    (by as_aux_lemma => kernel_rfl) (by as_aux_lemma => kernel_rfl) (by as_aux_lemma => kernel_rfl) (by as_aux_lemma => kernel_rfl) (by as_aux_lemma => kernel_rfl) (by as_aux_lemma => kernel_rfl) (by as_aux_lemma => kernel_rfl) (by as_aux_lemma => kernel_rfl) (by as_aux_lemma => kernel_rfl) (by as_aux_lemma => kernel_rfl)
theorem boxFragmentsComeBack_holds : Rows.BoxFragmentsComeBackSaid :=
  OpenClaim.holds_of_wide 8 Try.f8 rfl rfl rfl rfl rfl rfl rfl ⟨rfl, rfl, rfl, rfl, rfl⟩ rfl rfl rfl rfl rfl (by as_aux_lemma => kernel_rfl) Try.func8 boxFragmentsComeBack_closed
    (of_decide_eq_true (by kernel_rfl)) (by unfold Func.isWrapper; first | (rw [if_pos (by decide +kernel)]; kernel_rfl) | (rw [if_neg (by decide +kernel)]; exact ⟨rfl, rfl⟩))
    (fun os started H enc _ => boxFragmentsComeBack_lifted os started H enc)
#print axioms boxFragmentsComeBack_holds
end Go.Proofs.Ytgnmnhlhiiehfaa
