/- Proved: for all films, bytes and chunks BoxFilmsWriteMatchSpec returns true: WriteFilm of the program and of the document give the same bytes and the same fault. Conditions: none. -/
import Derived.Test.YtlonhkjplijlcaaMwf46
import Derived.Test.YtlonhkjplijlcaaMwf47
import Derived.Test.YtlonhkjplijlcaaMwf48
namespace Go.Proofs.Ytlonhkjplijlcaa
open Go.ChangeShapes Go.WideShapes Go.ChangeAt Go.RowKit Go.Joins Go.Deep
set_option linter.unusedVariables false in
set_option maxRecDepth 100000 in
set_option maxHeartbeats 8000000 in
theorem wfMatch_any {sc : Int} {A : Option Addr} {n c : Nat} {hs : List TrkH} {T : List TrkT} {B : Option Addr} {m d : Nat} {es : List (Option Addr × Nat × Nat)} {D : List (List UInt8)} {ch : Int} {w : World} (h : TksAt w A n c hs T) (hd : DtsAt w B m d es D) (hn : nmF T) :
    Calls Try.prog 3 #[.agg #[.int .i64 sc, .slice A n c], .slice B m d, .int .i64 ch] w fun e w' => e = .returned (.bool true) ∧ Ext w w' := by
  have HAW := hide (fun (W : World) => awake_any W)
  have X0 := hide (Blk.new w 24 #[.int .i64 sc, .slice A n c])
  have E0 := hide (Ext.alloc w (.cells #[.int .i64 sc, .slice A n c] 24))
  have HW1 := hide (fun (W : World) (hW : Ext w W) => writeFilm_any (sc := sc) (ch := ch) (h.ext hW) (hd.ext hW) hn)
  have HW2 := hide (fun (W : World) (hW : Ext w W) => refWrite_any (sc := sc) (ch := ch) (h.ext hW) (hd.ext hW) hn)
  clear h hd hn
  generalize wfB sc T D ch = wb at *
  generalize wfF sc T D ch = wf at *
  go_enter Try.func3, Try.ntmps3
  go_upto_region 1 with (fail)
  refine gen_wpC fun w0 h0 => ?_
  rw [← h0] at X0 E0
  obtain ⟨fb, hfb⟩ : ∃ fb, fb = w.heap.size := ⟨_, rfl⟩
  rw [← hfb] at X0 ⊢
  clear h0 hfb
  have x0 : w0.cell? ⟨fb, 0, none⟩ = some (.int .i64 sc) := X0.out.cell 0
  have x1 : w0.cell? ⟨fb, 1, none⟩ = some (.slice A n c) := X0.out.cell 1
  go_wp2_with fail
  with_reducible refine (HW1.out _ E0.out).mono ?_
  rintro e w1 ⟨N1, k1, c1, rfl, q1, e1⟩
  have E1 := hide (Ext.trans E0.out e1)
  have X1 := hide (X0.out.ext e1)
  have Q1 := hide q1
  clear q1 e1 x0 x1
  have x0 : w1.cell? ⟨fb, 0, none⟩ = some (.int .i64 sc) := X1.out.cell 0
  have x1 : w1.cell? ⟨fb, 1, none⟩ = some (.slice A n c) := X1.out.cell 1
  go_wp2_with fail
  with_reducible refine (HW2.out _ E1.out).mono ?_
  rintro e w2 ⟨N2, k2, c2, rfl, q2, e2⟩
  have E2 := hide (Ext.trans E1.out e2)
  have HBE := hide (Calls.mono (bytesEq_any (Q1.out.ext e2) q2) (fun e w' he => (⟨by rw [he.1]; simp, he.2⟩ : e = .returned (.bool true) ∧ w2 = w')))
  have df : (wf == wf) = true := by simp
  clear q2 e2 x0 x1 Q1 X1 X0 HW1 HW2 E1 E0
  go_wp2_with fail
  with_reducible refine HBE.out.mono ?_
  rintro e w' ⟨rfl, rfl⟩
  go_wp2_with fail
  with_reducible refine (HAW.out _).mono ?_
  rintro e w4 ⟨rfl, e4⟩
  have E4 := hide (Ext.trans E2.out e4)
  clear e4
  go_wp2_with fail
  go_ret
  exact ⟨rfl, E4.out⟩
set_option maxRecDepth 100000 in
theorem boxFilmsWriteMatchSpec_lifted (os : Os) (started : os.Started) (H : Type) (enc : TypeId × Value → H) :
    ReturnsInHanded {} Try.checked os 3 .any (Rows.boxFilmsWriteMatchSpecSpec.pre6 enc Try.prog Try.f3 Rows.boxFilmsWriteMatchSpecRow.domain false) (Rows.boxFilmsWriteMatchSpecSpec.post enc Try.prog Try.f3 false true false false) := by
  refine returnsInHanded_of_change_sized (C := Try.checked) Try.own started (by kernel_rfl) Try.func3
    (ChangeSpec.witness6 (enc := enc) (C := Try.checked) false ⟨#[], #[.agg #[.int .i64 0, .slice none 0 0], .slice none 0 0, .int .i64 0], []⟩ 8 (by kernel_rfl) (by kernel_rfl) (by kernel_rfl) (by kernel_rfl)) ?_
  intro W base args ds gs before hval0 hW _ _ _
  have hval : ∀ (j : Nat) t v, Try.f3.params[j]? = some t → args[j]? = some v → Value.okWide Try.prog W .any base t v := hval0
  have hW' := hW
  obtain ⟨p, q, hA0, hV, rfl, _, _⟩ := hW
  have hA : DataW.TrodAll enc Try.prog W 0 (fun _ => true) true Try.f3.params.toList args.toList ds p := hA0
  rw [Try.params3] at hA hval
  obtain ⟨v0, v1, v2, d0, d1, d2, p0, p1, p2, rfl, rfl, rfl, h0, h1, h2⟩ := trodAll_three hA
  obtain ⟨sc, A0, n0, c0, hs, T, rfl, hT, hN, _⟩ := open_film (hval 0 24 v0 rfl rfl) h0
  obtain ⟨A1, n1, c1, es, D, rfl, hD⟩ := open_datas (hval 1 25 v1 rfl rfl) h1
  obtain ⟨x2, rfl, rfl, rfl, _⟩ := open_int Try.underlying3 (hval 2 3 v2 rfl rfl) h2
  refine (wfMatch_any hT hD hN).mono fun e W' ⟨he, hE⟩ => ?_
  subst he
  exact ⟨_, rfl, law_post Try.laidOut Try.underlying4 hW' rfl rfl rfl (by kernel_rfl) hE⟩
theorem boxFilmsWriteMatchSpec_closed : joinedFacts Try.prog 3 Try.f3 Rows.boxFilmsWriteMatchSpecSpec Rows.boxFilmsWriteMatchSpecRow = true :=
  joined_of Try.laidOut Try.mapsRowed Try.plainKeys Try.stopsHeard Try.stopsNone Try.knobsNone Try.mayEnter Try.makeCut Try.liftsFinal rfl rfl rfl (by as_aux_lemma => kernel_rfl)
    (by as_aux_lemma => kernel_rfl) (by as_aux_lemma => kernel_rfl) (by as_aux_lemma => kernel_rfl) (by as_aux_lemma => kernel_rfl) (by as_aux_lemma => kernel_rfl) (by as_aux_lemma => kernel_rfl) (by as_aux_lemma => kernel_rfl) (by as_aux_lemma => kernel_rfl) (by as_aux_lemma => kernel_rfl) (by as_aux_lemma => kernel_rfl)
theorem boxFilmsWriteMatchSpec_holds : Rows.BoxFilmsWriteMatchSpecSaid :=
  OpenClaim.holds_of_wide 3 Try.f3 rfl rfl rfl rfl rfl rfl rfl ⟨rfl, rfl, rfl, rfl, rfl⟩ rfl rfl rfl rfl rfl (by as_aux_lemma => kernel_rfl) Try.func3 boxFilmsWriteMatchSpec_closed
    (of_decide_eq_true (by kernel_rfl)) (by unfold Func.isWrapper; first | (rw [if_pos (by decide +kernel)]; kernel_rfl) | (rw [if_neg (by decide +kernel)]; exact ⟨rfl, rfl⟩))
    (fun os started H enc _ => boxFilmsWriteMatchSpec_lifted os started H enc)
#print axioms boxFilmsWriteMatchSpec_holds
end Go.Proofs.Ytlonhkjplijlcaa
