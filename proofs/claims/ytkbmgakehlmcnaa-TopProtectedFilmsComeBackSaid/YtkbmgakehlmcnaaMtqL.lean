/- Proved: for all films, bytes, chunks, schemes, rotations, secrets and periods TopProtectedFilmsComeBack returns true: a film whose data is encrypted, track by track, written, read and decrypted, is what it was. Conditions: none. -/
import Derived.Test.YtkbmgakehlmcnaaMtq03
import Derived.Test.YtkbmgakehlmcnaaMtq16
import Derived.Test.YtkbmgakehlmcnaaMtq41
import Derived.Test.YtkbmgakehlmcnaaMtq48
import Derived.Test.YtkbmgakehlmcnaaMtq51
import Derived.Test.YtkbmgakehlmcnaaMtq11
import Derived.Test.YtkbmgakehlmcnaaMtq52
namespace Go.Proofs.Ytkbmgakehlmcnaa
open Go.ChangeShapes Go.WideShapes Go.ChangeAt Go.RowKit Go.Joins Go.Deep Kc
set_option linter.unusedVariables false in
theorem protBack_any {sc ch mo cr sk rB rE rL p : Int} {A : Option Addr} {n c : Nat} {hs : List TrkH} {T : List TrkT} {B : Option Addr} {m d : Nat} {es : List (Option Addr × Nat × Nat)} {D : List (List UInt8)} {rA sA : Option Addr} {rn rc sn sc2 : Nat} {rl sl : List UInt8} {w : World}
    (h : TksAt w A n c hs T) (hd : DtsAt w B m d es D) (hm : m * 24 ≤ 140737488355328) (hN : nmF T) (hr : At w 1 e8 rA rn rc rl) (hs2 : At w 1 e8 sA sn sc2 sl) :
    Calls Try.prog 3 #[.agg #[.int .i64 sc, .slice A n c], .slice B m d, .int .i64 ch, .agg #[.int .i64 mo, .int .i64 cr, .int .i64 sk], .agg #[.int .i64 rB, .int .i64 rE, .int .i64 rL, .slice rA rn rc], .slice sA sn sc2, .int .i64 p] w fun e w' => e = .returned (.bool true) ∧ Ext w w' := by
  have l1 := hr.len
  have l2 := hs2.len
  refine protBack_of (kb := ofV rB rE rL rl sl p) (kf := ofF rB rE rL rn sn p) (ib := idV rB rE rL rl p) (jf := idF rB rE rL rn p) (F := cyV mo cr sk (ofV rB rE rL rl sl p) ((idV rB rE rL rl p).take 8)) (cf := cyF mo cr sk)
    (wb := wfB sc T (D.map (cyV mo cr sk (ofV rB rE rL rl sl p) ((idV rB rE rL rl p).take 8))) ch) (wf := wfF sc T (D.map (cyV mo cr sk (ofV rB rE rL rl sl p) ((idV rB rE rL rl p).take 8))) ch) h hd hm ?_ ?_ ?_ ?_ ?_ ?_ ?_ ?_ ?_ ?_ ?_ ?_
  · exact fun W hW => keyKeyOf_any rB rE rL (hr.ext hW) (hs2.ext hW) p
  · exact fun W hW => keyKeyId_any rB rE rL (hr.ext hW) p
  · intro hz
    rw [← l1, ← l2] at hz
    exact ofV_none hz
  · intro hz
    have hz2 := of_id hz
    refine ⟨?_, ?_, hz2⟩
    · rw [← l1, ← l2] at hz
      exact ofV_len hz
    · rw [← l1] at hz2
      exact idV_len hz2
  · intro W A1 A2 A3 c1 c2 n3 c3 b h1 h2 h3
    obtain rfl : n3 = b.length := h3.len.symm
    exact keyProtectF_any h1 h2 h3 (At.nil _ _ _)
  · exact fun b hb => cyV_none hb
  · intro W A1 A2 A3 c1 c2 n3 c3 b hz h1 h2 h3
    have hb := cyV_back (k := ofV rB rE rL rl sl p) (v := (idV rB rE rL rl p).take 8) hz
    obtain rfl : n3 = b.length := h3.len.symm.trans hb.1
    have e := keyOpen_any (m := mo) (c := cr) (s := sk) h1 h2 h3 (At.nil W 2 e2)
    rw [hb.2, show codF mo cr sk 16 8 b.length [] = 0 from hz] at e
    exact e
  · exact fun W B2 m2 d2 es2 hW hd2 => writeFilm_any (h.ext hW) hd2 hN
  · exact fun hz => by unfold wfB; rw [if_neg hz]
  · intro hz
    have := (datF_zero (wfF_zero hz).2.2.1).1
    rwa [List.length_map] at this
  · intro W N k q hz hA
    have e := keyReadFilm_any hA
    rw [film_back hz] at e
    exact e
  · exact alive_any
section
variable {H : Type} {enc : TypeId × Value → H} {P : Program} {w : World} {base : Nat} {spare : Nat → Bool} {held : Bool}
theorem trodAll_seven {t t1 t2 t3 t4 t5 t6 : TypeId} {args : Array Value} {ds : List (DataW H)} {ps : List MemPlace} (h : DataW.TrodAll enc P w base spare held [t, t1, t2, t3, t4, t5, t6] args.toList ds ps) :
    ∃ v v1 v2 v3 v4 v5 v6 d d1 d2 d3 d4 d5 d6 p p1 p2 p3 p4 p5 p6, args = #[v, v1, v2, v3, v4, v5, v6] ∧ ds = [d, d1, d2, d3, d4, d5, d6] ∧ ps = p ++ p1 ++ p2 ++ p3 ++ p4 ++ p5 ++ p6 ∧ DataW.Trod enc P w base spare held t v d p ∧ DataW.Trod enc P w base spare held t1 v1 d1 p1 ∧ DataW.Trod enc P w base spare held t2 v2 d2 p2 ∧ DataW.Trod enc P w base spare held t3 v3 d3 p3 ∧ DataW.Trod enc P w base spare held t4 v4 d4 p4 ∧ DataW.Trod enc P w base spare held t5 v5 d5 p5 ∧ DataW.Trod enc P w base spare held t6 v6 d6 p6 := by
  obtain ⟨v, vs, d, ds', p, q, hargs, rfl, rfl, hd, hrest⟩ := trodAll_cons h
  obtain ⟨v1, vs1, d1, ds1, p1, q1, rfl, rfl, rfl, hd1, hrest1⟩ := trodAll_cons hrest
  obtain ⟨v2, vs2, d2, ds2, p2, q2, rfl, rfl, rfl, hd2, hrest2⟩ := trodAll_cons hrest1
  obtain ⟨v3, vs3, d3, ds3, p3, q3, rfl, rfl, rfl, hd3, hrest3⟩ := trodAll_cons hrest2
  obtain ⟨v4, vs4, d4, ds4, p4, q4, rfl, rfl, rfl, hd4, hrest4⟩ := trodAll_cons hrest3
  obtain ⟨v5, vs5, d5, ds5, p5, q5, rfl, rfl, rfl, hd5, hrest5⟩ := trodAll_cons hrest4
  obtain ⟨v6, vs6, d6, ds6, p6, q6, rfl, rfl, rfl, hd6, hrest6⟩ := trodAll_cons hrest5
  obtain ⟨rfl, rfl, rfl⟩ := trodAll_nil hrest6
  exact ⟨v, v1, v2, v3, v4, v5, v6, d, d1, d2, d3, d4, d5, d6, p, p1, p2, p3, p4, p5, p6, by cases args; simp_all, rfl, by simp, hd, hd1, hd2, hd3, hd4, hd5, hd6⟩
end
section
variable {H : Type} {enc : TypeId × Value → H} {W : World} {base : Nat}
set_option maxRecDepth 100000 in
theorem open_datasT {v : Value} {d : DataW H} {p : List MemPlace} (hv : Value.okWide Try.prog W .any base 25 v) (h : DataW.Trod enc Try.prog W 0 (fun _ => true) true 25 v d p) :
    ∃ A n c es D, v = .slice A n c ∧ DtsAt W A n c es D ∧ Takes d c := by
  obtain ⟨A, n, c, rfl⟩ := okWide_slice Try.underlying25 hv
  obtain ⟨fuel, hf⟩ := h
  obtain ⟨l, h1, h2, h3⟩ := open_onesQ (α := (Option Addr × Nat × Nat) × List UInt8) (en := fun x => eB1 x.1) (good := fun x => At W 1 e8 x.1.1 x.1.2.1 x.1.2.2 x.2) Try.underlying25 (by kernel_rfl)
    (fun v n y hy => by
      obtain ⟨A, n, c, rfl⟩ := fldSlice Try.underlying28 hy
      obtain ⟨d, p⟩ := y
      obtain ⟨l, g1, _⟩ := open_bytesQ Try.underlying28 Try.underlying5 (by kernel_rfl) hy
      exact ⟨((A, n, c), l), g1, rfl⟩) (by simpa [Value.cells] using hf)
  have hl := h1.len
  refine ⟨A, n, c, l.map Prod.fst, l.map Prod.snd, rfl, ⟨At.map1 (en := fun x => eB1 x.1) Prod.fst (fun _ => rfl) h1, by simpa using hl, fun i hi => ?_⟩, h3⟩
  have hil : i < l.length := by omega
  have := h2 (l[i]'hil) (List.getElem_mem hil)
  simp only [List.getD_eq_getElem?_getD, List.getElem?_map, List.getElem?_eq_getElem hil, Option.map_some, Option.getD_some]
  exact this
set_option maxRecDepth 100000 in
theorem open_bytsT {v : Value} {d : DataW H} {p : List MemPlace} (hv : Value.okWide Try.prog W .any base 28 v) (h : DataW.Trod enc Try.prog W 0 (fun _ => true) true 28 v d p) :
    ∃ A n c l, v = .slice A n c ∧ At W 1 e8 A n c l ∧ Takes d c := open_bytesP Try.underlying28 Try.underlying5 (by kernel_rfl) hv h
end
theorem bytes_row : Try.prog.bytesOf 28 = 24 := by kernel_rfl
set_option maxRecDepth 100000 in
theorem topProtectedFilmsComeBack_lifted (os : Os) (started : os.Started) (H : Type) (enc : TypeId × Value → H) :
    ReturnsInHanded {} Try.checked os 3 .any (Rows.topProtectedFilmsComeBackSpec.pre6 enc Try.prog Try.f3 Rows.topProtectedFilmsComeBackRow.domain false) (Rows.topProtectedFilmsComeBackSpec.post enc Try.prog Try.f3 false true false false) := by
  refine returnsInHanded_of_change_sized (C := Try.checked) Try.own started (by kernel_rfl) Try.func3
    (ChangeSpec.witness6 (enc := enc) (C := Try.checked) false ⟨#[], #[.agg #[.int .i64 0, .slice none 0 0], .slice none 0 0, .int .i64 0, .agg #[.int .i64 0, .int .i64 0, .int .i64 0], .agg #[.int .i64 0, .int .i64 0, .int .i64 0, .slice none 0 0], .slice none 0 0, .int .i64 0], []⟩ 8 (by kernel_rfl) (by kernel_rfl) (by kernel_rfl) (by kernel_rfl)) ?_
  intro W base args ds gs before hval0 hW _ hsz0 _
  have hsz : (DataW.weightsEach Try.prog (Try.f3.params.toList ++ Rows.topProtectedFilmsComeBackSpec.plain.varTypes Try.prog) (ds ++ gs)).all (· ≤ reachBytes) = true := hsz0
  have hval : ∀ (j : Nat) t v, Try.f3.params[j]? = some t → args[j]? = some v → Value.okWide Try.prog W .any base t v := hval0
  have hW' := hW
  obtain ⟨p, q, hA0, hV, rfl, _, _⟩ := hW
  have hA : DataW.TrodAll enc Try.prog W 0 (fun _ => true) true Try.f3.params.toList args.toList ds p := hA0
  rw [Try.params3] at hA hval hsz
  obtain ⟨v0, v1, v2, v3, v4, v5, v6, d0, d1, d2, d3, d4, d5, d6, p0, p1, p2, p3, p4, p5, p6, rfl, rfl, rfl, h0, h1, h2, h3, h4, h5, h6⟩ := trodAll_seven hA
  obtain ⟨sc, A0, n0, c0, hs, T, rfl, hT, hN, _⟩ := open_film (hval 0 24 v0 rfl rfl) h0
  obtain ⟨A1, n1, c1, es, D, rfl, hD, hT1⟩ := open_datasT (hval 1 25 v1 rfl rfl) h1
  have hb1 := reach_of Try.underlying25 hsz 1 rfl rfl hT1 hD.at_.le
  rw [bytes_row] at hb1
  obtain ⟨x2, rfl, rfl, rfl, _⟩ := open_int Try.underlying3 (hval 2 3 v2 rfl rfl) h2
  obtain ⟨mo, cr, sk, rfl, _, _, _⟩ := open_scheme (hval 3 27 v3 rfl rfl) h3
  obtain ⟨rB, rE, rL, rA, rn, rc, rl, rfl, _, _, _, hAr⟩ := open_rot (hval 4 30 v4 rfl rfl) h4
  obtain ⟨A5, n5, c5, l5, rfl, hAs, _⟩ := open_bytsT (hval 5 28 v5 rfl rfl) h5
  obtain ⟨x6, rfl, rfl, rfl, _⟩ := open_int Try.underlying3 (hval 6 3 v6 rfl rfl) h6
  refine (protBack_any hT hD (by omega) hN hAr hAs).mono fun e W' ⟨he, hE⟩ => ?_
  subst he
  exact ⟨_, rfl, law_post Try.laidOut Try.underlying4 hW' rfl rfl rfl (by kernel_rfl) hE⟩
theorem topProtectedFilmsComeBack_closed : joinedFacts Try.prog 3 Try.f3 Rows.topProtectedFilmsComeBackSpec Rows.topProtectedFilmsComeBackRow = true :=
  joined_of Try.laidOut Try.mapsRowed Try.plainKeys Try.stopsHeard Try.stopsNone Try.knobsNone Try.mayEnter Try.makeCut Try.liftsFinal rfl rfl rfl (by as_aux_lemma => kernel_rfl)
    (by as_aux_lemma => kernel_rfl) (by as_aux_lemma => kernel_rfl) (by as_aux_lemma => kernel_rfl) (by as_aux_lemma => kernel_rfl) (by as_aux_lemma => kernel_rfl) (by as_aux_lemma => kernel_rfl) (by as_aux_lemma => kernel_rfl) (by as_aux_lemma => kernel_rfl) (by as_aux_lemma => kernel_rfl) (by as_aux_lemma => kernel_rfl)
theorem topProtectedFilmsComeBack_holds : Rows.TopProtectedFilmsComeBackSaid :=
  OpenClaim.holds_of_wide 3 Try.f3 rfl rfl rfl rfl rfl rfl rfl ⟨rfl, rfl, rfl, rfl, rfl⟩ rfl rfl rfl rfl rfl (by as_aux_lemma => kernel_rfl) Try.func3 topProtectedFilmsComeBack_closed
    (of_decide_eq_true (by kernel_rfl)) (by unfold Func.isWrapper; first | (rw [if_pos (by decide +kernel)]; kernel_rfl) | (rw [if_neg (by decide +kernel)]; exact ⟨rfl, rfl⟩))
    (fun os started H enc _ => topProtectedFilmsComeBack_lifted os started H enc)
#print axioms topProtectedFilmsComeBack_holds
end Go.Proofs.Ytkbmgakehlmcnaa
