/- Proved: for every film, trace, player, promise, time and choices PlayPromisesMatchSpec returns true: Keeps, Sure and Least of the program and of the document answer alike; the arguments read as they did. Conditions: none. -/
import Derived.Test.YtjbgkoeojfmkkaaKeepT
import Derived.Test.YtjbgkoeojfmkkaaPrmT
import Derived.Test.YtjbgkoeojfmkkaaAwakeP
import Derived.Test.YtjbgkoeojfmkkaaOpen
import Derived.Test.YtjbgkoeojfmkkaaLawG
namespace Go.Proofs.Ytjbgkoeojfmkkaa
open Go.ChangeShapes Go.WideShapes Go.ChangeAt Go.RowKit Go.Joins Go.Deep
set_option maxRecDepth 1000000 in
set_option maxHeartbeats 8000000 in
theorem promises_law {lA : Option Addr} {ln lc : Nat} {sA : Option Addr} {sn sc : Nat} {qA : Option Addr} {qn qc : Nat} {L : List Int} {S : List (List Int)} {Q : List Int} {T : List (Int × Int)} {C : List Int} {d0 s0 r0 f0 i0 k0 l0 t0 lo0 hi0 a0 x0 y0 z0 gw gb u : Int} {w : World} {tA : Option Addr} {tn tc : Nat} {cA : Option Addr} {cn cc : Nat} (h : Shw w lA ln lc sA sn sc qA qn qc L S Q) (hT : At w 2 e2 tA tn tc T) (hu : -9223372036854775808 ≤ u ∧ u ≤ 9223372036854775807) (hC : At w 1 e64 cA cn cc C) :
    Calls Try.prog 4 #[shV lA ln lc sA sn sc qA qn qc, .slice tA tn tc, plV d0 s0 r0 f0 i0 k0 l0 t0 lo0 hi0 a0 x0 y0 z0, .agg #[.int .i64 gw, .int .i64 gb], .int .i64 u, .slice cA cn cc] w fun e w' => e = .returned (.bool true) ∧ Ext w w' := by
  have HX : Hid (Ext w (((w.alloc (.cells #[.slice lA ln lc, .slice sA sn sc, .slice qA qn qc] 25)).alloc (.cells #[.int .i64 d0, .int .i64 s0, .int .i64 r0, .int .i64 f0, .int .i64 i0, .int .i64 k0, .int .i64 l0, .int .i64 t0, .int .i64 lo0, .int .i64 hi0, .int .i64 a0, .int .i64 x0, .int .i64 y0, .int .i64 z0] 30)).alloc (.cells #[.int .i64 gw, .int .i64 gb] 44))) := hide (ext_alloc (ext_alloc (Ext.alloc _ _) _) _)
  have hb0 := ((Blk.new w 25 #[.slice lA ln lc, .slice sA sn sc, .slice qA qn qc]).alloc (.cells #[.int .i64 d0, .int .i64 s0, .int .i64 r0, .int .i64 f0, .int .i64 i0, .int .i64 k0, .int .i64 l0, .int .i64 t0, .int .i64 lo0, .int .i64 hi0, .int .i64 a0, .int .i64 x0, .int .i64 y0, .int .i64 z0] 30)).alloc (.cells #[.int .i64 gw, .int .i64 gb] 44)
  have hb1 := (Blk.new (w.alloc (.cells #[.slice lA ln lc, .slice sA sn sc, .slice qA qn qc] 25)) 30 #[.int .i64 d0, .int .i64 s0, .int .i64 r0, .int .i64 f0, .int .i64 i0, .int .i64 k0, .int .i64 l0, .int .i64 t0, .int .i64 lo0, .int .i64 hi0, .int .i64 a0, .int .i64 x0, .int .i64 y0, .int .i64 z0]).alloc (.cells #[.int .i64 gw, .int .i64 gb] 44)
  have hb2 := Blk.new ((w.alloc (.cells #[.slice lA ln lc, .slice sA sn sc, .slice qA qn qc] 25)).alloc (.cells #[.int .i64 d0, .int .i64 s0, .int .i64 r0, .int .i64 f0, .int .i64 i0, .int .i64 k0, .int .i64 l0, .int .i64 t0, .int .i64 lo0, .int .i64 hi0, .int .i64 a0, .int .i64 x0, .int .i64 y0, .int .i64 z0] 30)) 44 #[.int .i64 gw, .int .i64 gb]
  simp only [World.size_alloc] at hb1 hb2
  have B0 := hide hb0
  have B1 := hide hb1
  have B2 := hide hb2
  clear hb0 hb1 hb2
  have HK1 := hide (fun (W : World) (hW : Ext w W) => keyKeeps_any (gw := gw) (gb := gb) (hT.ext hW) hu)
  have HK2 := hide (fun (W : World) (hW : Ext w W) => refKeeps_any (gw := gw) (gb := gb) (hT.ext hW) hu)
  have HS1 := hide (fun (W : World) (hW : Ext w W) => keySure_any (d0 := d0) (s0 := s0) (r0 := r0) (f0 := f0) (i0 := i0) (k0 := k0) (l0 := l0) (t0 := t0) (lo0 := lo0) (hi0 := hi0) (a0 := a0) (x0 := x0) (y0 := y0) (z0 := z0) (gw := gw) (gb := gb) (h.ext hW) (hC.ext hW))
  have HS2 := hide (fun (W : World) (hW : Ext w W) => refSure_any (d0 := d0) (s0 := s0) (r0 := r0) (f0 := f0) (i0 := i0) (k0 := k0) (l0 := l0) (t0 := t0) (lo0 := lo0) (hi0 := hi0) (a0 := a0) (x0 := x0) (y0 := y0) (z0 := z0) (gw := gw) (gb := gb) (h.ext hW) (hC.ext hW))
  have HL1 := hide (fun (W : World) (hW : Ext w W) => keyLeast_any (d0 := d0) (s0 := s0) (r0 := r0) (f0 := f0) (i0 := i0) (k0 := k0) (l0 := l0) (t0 := t0) (lo0 := lo0) (hi0 := hi0) (a0 := a0) (x0 := x0) (y0 := y0) (z0 := z0) (gw := gw) (gb := gb) (h.ext hW) (hC.ext hW))
  have HL2 := hide (fun (W : World) (hW : Ext w W) => refLeast_any (d0 := d0) (s0 := s0) (r0 := r0) (f0 := f0) (i0 := i0) (k0 := k0) (l0 := l0) (t0 := t0) (lo0 := lo0) (hi0 := hi0) (a0 := a0) (x0 := x0) (y0 := y0) (z0 := z0) (gw := gw) (gb := gb) (h.ext hW) (hC.ext hW))
  have HAW := hide (fun (W : World) => awake_any W)
  clear h hT hC hu
  generalize kepF T gw gb u = k1 at *
  generalize kepB T gw gb u = k2 at *
  generalize leaF L S C d0 r0 f0 gw gb (surF L S Q C d0 s0 r0 f0 i0 k0 l0 t0 lo0 hi0 a0 x0 y0 z0 gw gb) = lf at *
  generalize (if surF L S Q C d0 s0 r0 f0 i0 k0 l0 t0 lo0 hi0 a0 x0 y0 z0 gw gb = 0 then surB L S C d0 s0 r0 f0 gw gb else false) = sb at *
  generalize surF L S Q C d0 s0 r0 f0 i0 k0 l0 t0 lo0 hi0 a0 x0 y0 z0 gw gb = sf at *
  generalize lf.1 = l1 at *
  generalize lf.2 = l2 at *
  have i1 : (k1 != k1) = false := by simp
  have i2 : (k2 != k2) = false := by simp
  have i3 : (sf != sf) = false := by simp
  have i4 : (sb != sb) = false := by simp
  have i5 : (sf == sf) = true := by simp
  have i6 : (l1 == l1) = true := by simp
  have i7 : (l2 == l2) = true := by simp
  go_enter Try.func4, Try.ntmps4
  have m0 := B2.out.cell 0
  have m1 := B2.out.cell 1
  go_wp2_with fail
  refine (HK1.out _ HX.out).mono ?_
  rintro e w1 ⟨rfl, e1⟩
  have E1 := hide e1
  clear e1 m0 m1
  have m0 := (B2.out.ext E1.out).cell 0
  have m1 := (B2.out.ext E1.out).cell 1
  go_wp2_with fail
  refine (HK2.out _ (Ext.trans HX.out E1.out)).mono ?_
  rintro e w2 ⟨rfl, e2⟩
  have E2 := hide (Ext.trans E1.out e2)
  clear e2 m0 m1 E1
  have r0 := (B0.out.ext E2.out).cell 0
  have r1 := (B0.out.ext E2.out).cell 1
  have r2 := (B0.out.ext E2.out).cell 2
  have q0 := (B1.out.ext E2.out).cell 0
  have q1 := (B1.out.ext E2.out).cell 1
  have q2 := (B1.out.ext E2.out).cell 2
  have q3 := (B1.out.ext E2.out).cell 3
  have q4 := (B1.out.ext E2.out).cell 4
  have q5 := (B1.out.ext E2.out).cell 5
  have q6 := (B1.out.ext E2.out).cell 6
  have q7 := (B1.out.ext E2.out).cell 7
  have q8 := (B1.out.ext E2.out).cell 8
  have q9 := (B1.out.ext E2.out).cell 9
  have q10 := (B1.out.ext E2.out).cell 10
  have q11 := (B1.out.ext E2.out).cell 11
  have q12 := (B1.out.ext E2.out).cell 12
  have q13 := (B1.out.ext E2.out).cell 13
  have m0 := (B2.out.ext E2.out).cell 0
  have m1 := (B2.out.ext E2.out).cell 1
  go_wp2_with fail
  refine (HS1.out _ (Ext.trans HX.out E2.out)).mono ?_
  rintro e w3 ⟨rfl, e3⟩
  have E3 := hide (Ext.trans E2.out e3)
  clear e3 E2
  clear r0 r1 r2 q0 q1 q2 q3 q4 q5 q6 q7 q8 q9 q10 q11 q12 q13 m0 m1
  have r0 := (B0.out.ext E3.out).cell 0
  have r1 := (B0.out.ext E3.out).cell 1
  have r2 := (B0.out.ext E3.out).cell 2
  have q0 := (B1.out.ext E3.out).cell 0
  have q1 := (B1.out.ext E3.out).cell 1
  have q2 := (B1.out.ext E3.out).cell 2
  have q3 := (B1.out.ext E3.out).cell 3
  have q4 := (B1.out.ext E3.out).cell 4
  have q5 := (B1.out.ext E3.out).cell 5
  have q6 := (B1.out.ext E3.out).cell 6
  have q7 := (B1.out.ext E3.out).cell 7
  have q8 := (B1.out.ext E3.out).cell 8
  have q9 := (B1.out.ext E3.out).cell 9
  have q10 := (B1.out.ext E3.out).cell 10
  have q11 := (B1.out.ext E3.out).cell 11
  have q12 := (B1.out.ext E3.out).cell 12
  have q13 := (B1.out.ext E3.out).cell 13
  have m0 := (B2.out.ext E3.out).cell 0
  have m1 := (B2.out.ext E3.out).cell 1
  go_wp2_with fail
  refine (HS2.out _ (Ext.trans HX.out E3.out)).mono ?_
  rintro e w4 ⟨rfl, e4⟩
  have E4 := hide (Ext.trans E3.out e4)
  clear e4 E3
  clear r0 r1 r2 q0 q1 q2 q3 q4 q5 q6 q7 q8 q9 q10 q11 q12 q13 m0 m1
  have r0 := (B0.out.ext E4.out).cell 0
  have r1 := (B0.out.ext E4.out).cell 1
  have r2 := (B0.out.ext E4.out).cell 2
  have q0 := (B1.out.ext E4.out).cell 0
  have q1 := (B1.out.ext E4.out).cell 1
  have q2 := (B1.out.ext E4.out).cell 2
  have q3 := (B1.out.ext E4.out).cell 3
  have q4 := (B1.out.ext E4.out).cell 4
  have q5 := (B1.out.ext E4.out).cell 5
  have q6 := (B1.out.ext E4.out).cell 6
  have q7 := (B1.out.ext E4.out).cell 7
  have q8 := (B1.out.ext E4.out).cell 8
  have q9 := (B1.out.ext E4.out).cell 9
  have q10 := (B1.out.ext E4.out).cell 10
  have q11 := (B1.out.ext E4.out).cell 11
  have q12 := (B1.out.ext E4.out).cell 12
  have q13 := (B1.out.ext E4.out).cell 13
  have m0 := (B2.out.ext E4.out).cell 0
  have m1 := (B2.out.ext E4.out).cell 1
  go_wp2_with fail
  refine (HL1.out _ (Ext.trans HX.out E4.out)).mono ?_
  rintro e w5 ⟨rfl, e5⟩
  have E5 := hide (Ext.trans E4.out e5)
  clear e5 E4
  clear r0 r1 r2 q0 q1 q2 q3 q4 q5 q6 q7 q8 q9 q10 q11 q12 q13 m0 m1
  have r0 := (B0.out.ext E5.out).cell 0
  have r1 := (B0.out.ext E5.out).cell 1
  have r2 := (B0.out.ext E5.out).cell 2
  have q0 := (B1.out.ext E5.out).cell 0
  have q1 := (B1.out.ext E5.out).cell 1
  have q2 := (B1.out.ext E5.out).cell 2
  have q3 := (B1.out.ext E5.out).cell 3
  have q4 := (B1.out.ext E5.out).cell 4
  have q5 := (B1.out.ext E5.out).cell 5
  have q6 := (B1.out.ext E5.out).cell 6
  have q7 := (B1.out.ext E5.out).cell 7
  have q8 := (B1.out.ext E5.out).cell 8
  have q9 := (B1.out.ext E5.out).cell 9
  have q10 := (B1.out.ext E5.out).cell 10
  have q11 := (B1.out.ext E5.out).cell 11
  have q12 := (B1.out.ext E5.out).cell 12
  have q13 := (B1.out.ext E5.out).cell 13
  have m0 := (B2.out.ext E5.out).cell 0
  have m1 := (B2.out.ext E5.out).cell 1
  go_wp2_with fail
  refine (HL2.out _ (Ext.trans HX.out E5.out)).mono ?_
  rintro e w6 ⟨rfl, e6⟩
  have E6 := hide (Ext.trans E5.out e6)
  clear e6 E5
  clear r0 r1 r2 q0 q1 q2 q3 q4 q5 q6 q7 q8 q9 q10 q11 q12 q13 m0 m1
  go_wp2_with fail
  refine (HAW.out _).mono ?_
  rintro e w7 ⟨rfl, e7⟩
  go_wp2
  go_ret
  exact ⟨rfl, Ext.trans HX.out (Ext.trans E6.out e7)⟩

set_option maxRecDepth 100000 in
theorem playPromisesMatchSpec_lifted (os : Os) (started : os.Started) (H : Type) (enc : TypeId × Value → H) :
    ReturnsInHanded {} Try.checked os 4 .any (Rows.playPromisesMatchSpecSpec.pre6 enc Try.prog Try.f4 Rows.playPromisesMatchSpecRow.domain false) (Rows.playPromisesMatchSpecSpec.post enc Try.prog Try.f4 false true false false) := by
  refine returnsInHanded_of_change_sized (C := Try.checked) Try.own started (by kernel_rfl) Try.func4
    (ChangeSpec.witness6 (enc := enc) (C := Try.checked) false ⟨#[], #[.agg #[.slice none 0 0, .slice none 0 0, .slice none 0 0], .slice none 0 0, .agg #[.int .i64 0, .int .i64 0, .int .i64 0, .int .i64 0, .int .i64 0, .int .i64 0, .int .i64 0, .int .i64 0, .int .i64 0, .int .i64 0, .int .i64 0, .int .i64 0, .int .i64 0, .int .i64 0], .agg #[.int .i64 0, .int .i64 0], .int .i64 0, .slice none 0 0], []⟩ 8 (by kernel_rfl) (by kernel_rfl) (by kernel_rfl) (by kernel_rfl)) ?_
  intro W base args ds gs before hval0 hW _ _ _
  have hval : ∀ (j : Nat) t v, Try.f4.params[j]? = some t → args[j]? = some v → Value.okWide Try.prog W .any base t v := hval0
  have hW' := hW
  obtain ⟨p, q, hA0, hV, rfl, _, _⟩ := hW
  have hA : DataW.TrodAll enc Try.prog W 0 (fun _ => true) true Try.f4.params.toList args.toList ds p := hA0
  rw [Try.params4] at hA hval
  obtain ⟨v0, v1, v2, v3, v4, v5, d0, d1, d2, d3, d4, d5, p0, p1, p2, p3, p4, p5, rfl, rfl, rfl, h0, h1, h2, h3, h4, h5⟩ := trodAll_six hA
  obtain ⟨lA, ln, lc, sA, sn, sc, qA, qn, qc, L, S, Q, rfl, hSh⟩ := open_show (hval 0 25 v0 rfl rfl) h0
  obtain ⟨A1, n1, c1, l1, rfl, hAt1, _, _⟩ := open_flows (hval 1 26 v1 rfl rfl) h1
  obtain ⟨q0, q1, q2, q3, q4, q5, q6, q7, q8, q9, q10, q11, q12, q13, rfl⟩ := open_player (hval 2 30 v2 rfl rfl) h2
  obtain ⟨gw, gb, rfl⟩ := open_promise (hval 3 44 v3 rfl rfl) h3
  obtain ⟨x4, rfl, rfl, rfl, w4⟩ := open_int Try.underlying3 (hval 4 3 v4 rfl rfl) h4
  obtain ⟨A5, n5, c5, l5, rfl, hAt5, _, _⟩ := open_intsP Try.underlying22 Try.underlying3 cellsInt (hval 5 22 v5 rfl rfl) h5
  refine (promises_law hSh hAt1 (wf_i64 w4) hAt5).mono fun e W' ⟨he, hE⟩ => ?_
  subst he
  exact ⟨_, rfl, law_post Try.laidOut Try.underlying4 hW' rfl rfl rfl (by kernel_rfl) hE⟩
theorem playPromisesMatchSpec_closed : joinedFacts Try.prog 4 Try.f4 Rows.playPromisesMatchSpecSpec Rows.playPromisesMatchSpecRow = true :=
  joined_of Try.laidOut Try.mapsRowed Try.plainKeys Try.stopsHeard Try.stopsNone Try.knobsNone Try.mayEnter Try.makeCut Try.liftsFinal rfl rfl rfl (by as_aux_lemma => kernel_rfl)
    (by as_aux_lemma => kernel_rfl) (by as_aux_lemma => kernel_rfl) (by as_aux_lemma => kernel_rfl) (by as_aux_lemma => kernel_rfl) (by as_aux_lemma => kernel_rfl) (by as_aux_lemma => kernel_rfl) (by as_aux_lemma => kernel_rfl) (by as_aux_lemma => kernel_rfl) (by as_aux_lemma => kernel_rfl) (by as_aux_lemma => kernel_rfl)
theorem playPromisesMatchSpec_holds : Rows.PlayPromisesMatchSpecSaid :=
  OpenClaim.holds_of_wide 4 Try.f4 rfl rfl rfl rfl rfl rfl rfl ⟨rfl, rfl, rfl, rfl, rfl⟩ rfl rfl rfl rfl rfl (by as_aux_lemma => kernel_rfl) Try.func4 playPromisesMatchSpec_closed
    (of_decide_eq_true (by kernel_rfl)) (by unfold Func.isWrapper; first | (rw [if_pos (by decide +kernel)]; kernel_rfl) | (rw [if_neg (by decide +kernel)]; exact ⟨rfl, rfl⟩))
    (fun os started H enc _ => playPromisesMatchSpec_lifted os started H enc)
#print axioms playPromisesMatchSpec_holds

end Go.Proofs.Ytjbgkoeojfmkkaa
