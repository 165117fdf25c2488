/- Proved: for every film, trace, player and choices PlayGivenRunsMatchSpec returns true: With of the program and of the document give the same session and the same fault; the arguments read as they did. Conditions: none. -/
import Derived.Test.YtjbgkoeojfmkkaaWithR
import Derived.Test.YtjbgkoeojfmkkaaSameP
import Derived.Test.YtjbgkoeojfmkkaaAwakeP
import Derived.Test.YtjbgkoeojfmkkaaShows
import Derived.Test.YtjbgkoeojfmkkaaOpen
import Derived.Test.YtjbgkoeojfmkkaaLawG
namespace Go.Proofs.Ytjbgkoeojfmkkaa
open Go.ChangeShapes Go.WideShapes Go.ChangeAt Go.RowKit
/-- What With gives, in one form. -/
theorem with_form {w : World} {F : Int} {n : Nat} {f : FoT} {e : Ending} {w' : World} (h : WithGives w F n f e w') :
    ∃ (a1 a2 a3 a4 : Option Addr) (m1 m2 m3 m4 : Nat), e = .returned (.tuple #[.agg #[.slice a1 (if F = 0 then f.ch else []).length m1, .slice a2 (if F = 0 then f.asd else []).length m2, .slice a3 (if F = 0 then f.arr else []).length m3, .int .i64 (if F = 0 then f.w.beg else 0), .slice a4 (if F = 0 then f.w.stalls else []).length m4, .int .i64 (if F = 0 then f.w.at_ + f.w.buf else 0)], .int .i64 F]) ∧
      At w' 1 e64 a1 (if F = 0 then f.ch else []).length m1 (if F = 0 then f.ch else []) ∧ At w' 1 e64 a2 (if F = 0 then f.asd else []).length m2 (if F = 0 then f.asd else []) ∧ At w' 1 e64 a3 (if F = 0 then f.arr else []).length m3 (if F = 0 then f.arr else []) ∧ At w' 2 e2 a4 (if F = 0 then f.w.stalls else []).length m4 (if F = 0 then f.w.stalls else []) ∧ Ext w w' := by
  obtain ⟨hx, hb, hg⟩ := h
  by_cases hF : F = 0
  · obtain ⟨v, rfl, ⟨cA, cc, aA, ac, rA, rc, tA, tc, rfl, h1, h2, h3, h4, _⟩, _⟩ := hg hF
    simp only [if_pos hF]
    exact ⟨cA, aA, rA, tA, cc, ac, rc, tc, by rw [hF], h1, h2, h3, h4, hx⟩
  · simp only [if_neg hF]
    exact ⟨none, none, none, none, 0, 0, 0, 0, hb hF, At.nil _ _ _, At.nil _ _ _, At.nil _ _ _, At.nil _ _ _, hx⟩
set_option maxRecDepth 1000000 in
set_option maxHeartbeats 8000000 in
theorem given_law {lA : Option Addr} {ln lc : Nat} {sA : Option Addr} {sn sc : Nat} {qA : Option Addr} {qn qc : Nat} {L : List Int} {S : List (List Int)} {Q : List Int} {T : List (Int × Int)} {C : List Int} {d0 s0 r0 f0 i0 k0 l0 t0 lo0 hi0 a0 x0 y0 z0 : Int} {w : World} {tA : Option Addr} {tn tc : Nat} {cA : Option Addr} {cn cc : Nat} (h : Shw w lA ln lc sA sn sc qA qn qc L S Q) (hT : At w 2 e2 tA tn tc T) (hC : At w 1 e64 cA cn cc C) :
    Calls Try.prog 5 #[shV lA ln lc sA sn sc qA qn qc, .slice tA tn tc, plV d0 s0 r0 f0 i0 k0 l0 t0 lo0 hi0 a0 x0 y0 z0, .slice cA cn cc] w fun e w' => e = .returned (.bool true) ∧ Ext w w' := by
  have HX : Hid (Ext w ((w.alloc (.cells #[.slice lA ln lc, .slice sA sn sc, .slice qA qn qc] 25)).alloc (.cells #[.int .i64 d0, .int .i64 s0, .int .i64 r0, .int .i64 f0, .int .i64 i0, .int .i64 k0, .int .i64 l0, .int .i64 t0, .int .i64 lo0, .int .i64 hi0, .int .i64 a0, .int .i64 x0, .int .i64 y0, .int .i64 z0] 30))) := hide (ext_alloc (Ext.alloc _ _) _)
  have B0 := hide ((Blk.new w 25 #[.slice lA ln lc, .slice sA sn sc, .slice qA qn qc]).alloc (.cells #[.int .i64 d0, .int .i64 s0, .int .i64 r0, .int .i64 f0, .int .i64 i0, .int .i64 k0, .int .i64 l0, .int .i64 t0, .int .i64 lo0, .int .i64 hi0, .int .i64 a0, .int .i64 x0, .int .i64 y0, .int .i64 z0] 30))
  have b1' := Blk.new (w.alloc (.cells #[.slice lA ln lc, .slice sA sn sc, .slice qA qn qc] 25)) 30 #[.int .i64 d0, .int .i64 s0, .int .i64 r0, .int .i64 f0, .int .i64 i0, .int .i64 k0, .int .i64 l0, .int .i64 t0, .int .i64 lo0, .int .i64 hi0, .int .i64 a0, .int .i64 x0, .int .i64 y0, .int .i64 z0]
  rw [World.size_alloc] at b1'
  have B1 := hide b1'
  have HW1 := hide (fun (W : World) (hW : Ext w W) => (with_any (d0 := d0) (s0 := s0) (r0 := r0) (f0 := f0) (i0 := i0) (k0 := k0) (l0 := l0) (t0 := t0) (lo0 := lo0) (hi0 := hi0) (a0 := a0) (x0 := x0) (y0 := y0) (z0 := z0) (h.ext hW) (hT.ext hW) (hC.ext hW)).mono fun e w' hg => with_form hg)
  have HW2 := hide (fun (W : World) (hW : Ext w W) => (refWith_any (d0 := d0) (s0 := s0) (r0 := r0) (f0 := f0) (i0 := i0) (k0 := k0) (l0 := l0) (t0 := t0) (lo0 := lo0) (hi0 := hi0) (a0 := a0) (x0 := x0) (y0 := y0) (z0 := z0) (h.ext hW) (hT.ext hW) (hC.ext hW)).mono fun e w' hg => with_form hg)
  have HAW := hide (fun (W : World) => awake_any W)
  clear h hT hC b1'
  generalize withF L S Q T C d0 s0 r0 f0 i0 k0 l0 t0 lo0 hi0 a0 x0 y0 z0 = u at *
  generalize folF f0 s0 r0 L S (gvF C) (trF T d0) L.length = f at *
  generalize (if u = 0 then f.ch else []) = X1 at *
  generalize (if u = 0 then f.asd else []) = X2 at *
  generalize (if u = 0 then f.arr else []) = X3 at *
  generalize (if u = 0 then f.w.stalls else []) = X4 at *
  generalize (if u = 0 then f.w.beg else 0) = bg at *
  generalize (if u = 0 then f.w.at_ + f.w.buf else 0) = en at *
  go_enter Try.func5, Try.ntmps5
  go_wp2_with fail
  refine (HW1.out _ HX.out).mono ?_
  rintro e w1 ⟨a1, a2, a3, a4, am1, am2, am3, am4, rfl, p1, p2, p3, p4, e1⟩
  have E1 := hide (Ext.trans e1 (Ext.alloc w1 (.cells #[.slice a1 X1.length am1, .slice a2 X2.length am2, .slice a3 X3.length am3, .int .i64 bg, .slice a4 X4.length am4, .int .i64 en] 33)))
  have P1 := hide (p1.ext (Ext.alloc w1 (.cells #[.slice a1 X1.length am1, .slice a2 X2.length am2, .slice a3 X3.length am3, .int .i64 bg, .slice a4 X4.length am4, .int .i64 en] 33)))
  have P2 := hide (p2.ext (Ext.alloc w1 (.cells #[.slice a1 X1.length am1, .slice a2 X2.length am2, .slice a3 X3.length am3, .int .i64 bg, .slice a4 X4.length am4, .int .i64 en] 33)))
  have P3 := hide (p3.ext (Ext.alloc w1 (.cells #[.slice a1 X1.length am1, .slice a2 X2.length am2, .slice a3 X3.length am3, .int .i64 bg, .slice a4 X4.length am4, .int .i64 en] 33)))
  have P4 := hide (p4.ext (Ext.alloc w1 (.cells #[.slice a1 X1.length am1, .slice a2 X2.length am2, .slice a3 X3.length am3, .int .i64 bg, .slice a4 X4.length am4, .int .i64 en] 33)))
  have BX := hide (Blk.new w1 33 #[.slice a1 X1.length am1, .slice a2 X2.length am2, .slice a3 X3.length am3, .int .i64 bg, .slice a4 X4.length am4, .int .i64 en])
  clear e1 p1 p2 p3 p4
  have r0 := (B0.out.ext E1.out).cell 0
  have r1 := (B0.out.ext E1.out).cell 1
  have r2 := (B0.out.ext E1.out).cell 2
  have q0 := (B1.out.ext E1.out).cell 0
  have q1 := (B1.out.ext E1.out).cell 1
  have q2 := (B1.out.ext E1.out).cell 2
  have q3 := (B1.out.ext E1.out).cell 3
  have q4 := (B1.out.ext E1.out).cell 4
  have q5 := (B1.out.ext E1.out).cell 5
  have q6 := (B1.out.ext E1.out).cell 6
  have q7 := (B1.out.ext E1.out).cell 7
  have q8 := (B1.out.ext E1.out).cell 8
  have q9 := (B1.out.ext E1.out).cell 9
  have q10 := (B1.out.ext E1.out).cell 10
  have q11 := (B1.out.ext E1.out).cell 11
  have q12 := (B1.out.ext E1.out).cell 12
  have q13 := (B1.out.ext E1.out).cell 13
  go_wp2_with fail
  refine (HW2.out _ (Ext.trans HX.out E1.out)).mono ?_
  rintro e w2 ⟨b1, b2, b3, b4, bm1, bm2, bm3, bm4, rfl, p1, p2, p3, p4, e2⟩
  have E2 := hide (Ext.trans e2 (Ext.alloc w2 (.cells #[.slice b1 X1.length bm1, .slice b2 X2.length bm2, .slice b3 X3.length bm3, .int .i64 bg, .slice b4 X4.length bm4, .int .i64 en] 33)))
  have Q1 := hide (p1.ext (Ext.alloc w2 (.cells #[.slice b1 X1.length bm1, .slice b2 X2.length bm2, .slice b3 X3.length bm3, .int .i64 bg, .slice b4 X4.length bm4, .int .i64 en] 33)))
  have Q2 := hide (p2.ext (Ext.alloc w2 (.cells #[.slice b1 X1.length bm1, .slice b2 X2.length bm2, .slice b3 X3.length bm3, .int .i64 bg, .slice b4 X4.length bm4, .int .i64 en] 33)))
  have Q3 := hide (p3.ext (Ext.alloc w2 (.cells #[.slice b1 X1.length bm1, .slice b2 X2.length bm2, .slice b3 X3.length bm3, .int .i64 bg, .slice b4 X4.length bm4, .int .i64 en] 33)))
  have Q4 := hide (p4.ext (Ext.alloc w2 (.cells #[.slice b1 X1.length bm1, .slice b2 X2.length bm2, .slice b3 X3.length bm3, .int .i64 bg, .slice b4 X4.length bm4, .int .i64 en] 33)))
  have BY := hide (Blk.new w2 33 #[.slice b1 X1.length bm1, .slice b2 X2.length bm2, .slice b3 X3.length bm3, .int .i64 bg, .slice b4 X4.length bm4, .int .i64 en])
  have BX := hide (BX.out.ext E2.out)
  clear e2 p1 p2 p3 p4 r0 r1 r2 q0 q1 q2 q3 q4 q5 q6 q7 q8 q9 q10 q11 q12 q13
  have x0' := BX.out.cell 0
  have y0' := BY.out.cell 0
  have x1' := BX.out.cell 1
  have y1' := BY.out.cell 1
  have x2' := BX.out.cell 2
  have y2' := BY.out.cell 2
  have x3' := BX.out.cell 3
  have y3' := BY.out.cell 3
  have x4' := BX.out.cell 4
  have y4' := BY.out.cell 4
  have x5' := BX.out.cell 5
  have y5' := BY.out.cell 5
  have HSM := hide (same_any (bg := bg) (en := en) (P1.out.ext E2.out) (P2.out.ext E2.out) (P3.out.ext E2.out) (P4.out.ext E2.out) Q1.out Q2.out Q3.out Q4.out)
  go_wp2_with fail
  refine HSM.out.mono ?_
  rintro e w3 ⟨rfl, e3⟩
  have E3 := hide e3
  clear e3
  go_wp2_with fail
  refine (HAW.out _).mono ?_
  rintro e w4 ⟨rfl, e4⟩
  have E4 := hide e4
  clear e4
  go_wp2
  go_ret
  exact ⟨rfl, Ext.trans HX.out (Ext.trans E1.out (Ext.trans E2.out (Ext.trans E3.out E4.out)))⟩

set_option maxRecDepth 100000 in
theorem playGivenRunsMatchSpec_lifted (os : Os) (started : os.Started) (H : Type) (enc : TypeId × Value → H) :
    ReturnsInHanded {} Try.checked os 5 .any (Rows.playGivenRunsMatchSpecSpec.pre6 enc Try.prog Try.f5 Rows.playGivenRunsMatchSpecRow.domain false) (Rows.playGivenRunsMatchSpecSpec.post enc Try.prog Try.f5 false true false false) := by
  refine returnsInHanded_of_change_sized (C := Try.checked) Try.own started (by kernel_rfl) Try.func5
    (ChangeSpec.witness6 (enc := enc) (C := Try.checked) false ⟨#[], #[.agg #[.slice none 0 0, .slice none 0 0, .slice none 0 0], .slice none 0 0, .agg #[.int .i64 0, .int .i64 0, .int .i64 0, .int .i64 0, .int .i64 0, .int .i64 0, .int .i64 0, .int .i64 0, .int .i64 0, .int .i64 0, .int .i64 0, .int .i64 0, .int .i64 0, .int .i64 0], .slice none 0 0], []⟩ 8 (by kernel_rfl) (by kernel_rfl) (by kernel_rfl) (by kernel_rfl)) ?_
  intro W base args ds gs before hval0 hW _ _ _
  have hval : ∀ (j : Nat) t v, Try.f5.params[j]? = some t → args[j]? = some v → Value.okWide Try.prog W .any base t v := hval0
  have hW' := hW
  obtain ⟨p, q, hA0, hV, rfl, _, _⟩ := hW
  have hA : DataW.TrodAll enc Try.prog W 0 (fun _ => true) true Try.f5.params.toList args.toList ds p := hA0
  rw [Try.params5] at hA hval
  obtain ⟨v0, v1, v2, v3, d0, d1, d2, d3, p0, p1, p2, p3, rfl, rfl, rfl, h0, h1, h2, h3⟩ := trodAll_four hA
  obtain ⟨lA, ln, lc, sA, sn, sc, qA, qn, qc, L, S, Q, rfl, hSh⟩ := open_show (hval 0 25 v0 rfl rfl) h0
  obtain ⟨A1, n1, c1, l1, rfl, hAt1, _, _⟩ := open_flows (hval 1 26 v1 rfl rfl) h1
  obtain ⟨q0, q1, q2, q3, q4, q5, q6, q7, q8, q9, q10, q11, q12, q13, rfl⟩ := open_player (hval 2 30 v2 rfl rfl) h2
  obtain ⟨A3, n3, c3, l3, rfl, hAt3, _, _⟩ := open_intsP Try.underlying22 Try.underlying3 cellsInt (hval 3 22 v3 rfl rfl) h3
  refine (given_law hSh hAt1 hAt3).mono fun e W' ⟨he, hE⟩ => ?_
  subst he
  exact ⟨_, rfl, law_post Try.laidOut Try.underlying4 hW' rfl rfl rfl (by kernel_rfl) hE⟩
theorem playGivenRunsMatchSpec_closed : joinedFacts Try.prog 5 Try.f5 Rows.playGivenRunsMatchSpecSpec Rows.playGivenRunsMatchSpecRow = true :=
  joined_of Try.laidOut Try.mapsRowed Try.plainKeys Try.stopsHeard Try.stopsNone Try.knobsNone Try.mayEnter Try.makeCut Try.liftsFinal rfl rfl rfl (by as_aux_lemma => kernel_rfl)
    (by as_aux_lemma => kernel_rfl) (by as_aux_lemma => kernel_rfl) (by as_aux_lemma => kernel_rfl) (by as_aux_lemma => kernel_rfl) (by as_aux_lemma => kernel_rfl) (by as_aux_lemma => kernel_rfl) (by as_aux_lemma => kernel_rfl) (by as_aux_lemma => kernel_rfl) (by as_aux_lemma => kernel_rfl) (by as_aux_lemma => kernel_rfl)
theorem playGivenRunsMatchSpec_holds : Rows.PlayGivenRunsMatchSpecSaid :=
  OpenClaim.holds_of_wide 5 Try.f5 rfl rfl rfl rfl rfl rfl rfl ⟨rfl, rfl, rfl, rfl, rfl⟩ rfl rfl rfl rfl rfl (by as_aux_lemma => kernel_rfl) Try.func5 playGivenRunsMatchSpec_closed
    (of_decide_eq_true (by kernel_rfl)) (by unfold Func.isWrapper; first | (rw [if_pos (by decide +kernel)]; kernel_rfl) | (rw [if_neg (by decide +kernel)]; exact ⟨rfl, rfl⟩))
    (fun os started H enc _ => playGivenRunsMatchSpec_lifted os started H enc)
#print axioms playGivenRunsMatchSpec_holds

end Go.Proofs.Ytjbgkoeojfmkkaa
