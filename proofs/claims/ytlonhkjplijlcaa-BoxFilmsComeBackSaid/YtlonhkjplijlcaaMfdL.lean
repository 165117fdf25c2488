/- Proved: for all films, bytes and chunks BoxFilmsComeBack returns true: a film and its bytes are read as they were written. Conditions: none. -/
import Derived.Test.YtlonhkjplijlcaaMfd38
import Derived.Test.YtlonhkjplijlcaaMfd42
import Derived.Test.YtlonhkjplijlcaaMfd46
import Derived.Test.YtlonhkjplijlcaaMfd48
namespace Go.Proofs.Ytlonhkjplijlcaa
open Go.ChangeShapes Go.WideShapes Go.ChangeAt Go.RowKit Go.Joins Go.Deep
theorem filmBack_any {sc : Int} {A : Option Addr} {n c : Nat} {hs : List TrkH} {T : List TrkT} {B : Option Addr} {m d : Nat} {es : List (Option Addr × Nat × Nat)} {D : List (List UInt8)} {ch : Int} {w : World} (h : TksAt w A n c hs T) (hd : DtsAt w B m d es D) (hn : nmF T) :
    Calls Try.prog 5 #[.agg #[.int .i64 sc, .slice A n c], .slice B m d, .int .i64 ch] w fun e w' => e = .returned (.bool true) ∧ Ext w w' :=
  filmBack_of h hd (fun _ hW => writeFilm_any (h.ext hW) (hd.ext hW) hn) (fun _ _ _ _ _ hA => keyReadFilm_any hA)
set_option maxRecDepth 100000 in
theorem boxFilmsComeBack_lifted (os : Os) (started : os.Started) (H : Type) (enc : TypeId × Value → H) :
    ReturnsInHanded {} Try.checked os 5 .any (Rows.boxFilmsComeBackSpec.pre6 enc Try.prog Try.f5 Rows.boxFilmsComeBackRow.domain false) (Rows.boxFilmsComeBackSpec.post enc Try.prog Try.f5 false true false false) := by
  refine returnsInHanded_of_change_sized (C := Try.checked) Try.own started (by kernel_rfl) Try.func5
    (ChangeSpec.witness6 (enc := enc) (C := Try.checked) false ⟨#[], #[.agg #[.int .i64 0, .slice none 0 0], .slice none 0 0, .int .i64 0], []⟩ 8 (by kernel_rfl) (by kernel_rfl) (by kernel_rfl) (by kernel_rfl)) ?_
  intro W base args ds gs before hval0 hW _ _ _
  have hval : ∀ (j : Nat) t v, Try.f5.params[j]? = some t → args[j]? = some v → Value.okWide Try.prog W .any base t v := hval0
  have hW' := hW
  obtain ⟨p, q, hA0, hV, rfl, _, _⟩ := hW
  have hA : DataW.TrodAll enc Try.prog W 0 (fun _ => true) true Try.f5.params.toList args.toList ds p := hA0
  rw [Try.params5] at hA hval
  obtain ⟨v0, v1, v2, d0, d1, d2, p0, p1, p2, rfl, rfl, rfl, h0, h1, h2⟩ := trodAll_three hA
  obtain ⟨sc, A0, n0, c0, hs, T, rfl, hT, hN, _⟩ := open_film (hval 0 24 v0 rfl rfl) h0
  obtain ⟨A1, n1, c1, es, D, rfl, hD⟩ := open_datas (hval 1 25 v1 rfl rfl) h1
  obtain ⟨x2, rfl, rfl, rfl, _⟩ := open_int Try.underlying3 (hval 2 3 v2 rfl rfl) h2
  refine (filmBack_any hT hD hN).mono fun e W' ⟨he, hE⟩ => ?_
  subst he
  exact ⟨_, rfl, law_post Try.laidOut Try.underlying4 hW' rfl rfl rfl (by kernel_rfl) hE⟩
theorem boxFilmsComeBack_closed : joinedFacts Try.prog 5 Try.f5 Rows.boxFilmsComeBackSpec Rows.boxFilmsComeBackRow = true :=
  joined_of Try.laidOut Try.mapsRowed Try.plainKeys Try.stopsHeard Try.stopsNone Try.knobsNone Try.mayEnter Try.makeCut Try.liftsFinal rfl rfl rfl (by as_aux_lemma => kernel_rfl)
    (by as_aux_lemma => kernel_rfl) (by as_aux_lemma => kernel_rfl) (by as_aux_lemma => kernel_rfl) (by as_aux_lemma => kernel_rfl) (by as_aux_lemma => kernel_rfl) (by as_aux_lemma => kernel_rfl) (by as_aux_lemma => kernel_rfl) (by as_aux_lemma => kernel_rfl) (by as_aux_lemma => kernel_rfl) (by as_aux_lemma => kernel_rfl)
theorem boxFilmsComeBack_holds : Rows.BoxFilmsComeBackSaid :=
  OpenClaim.holds_of_wide 5 Try.f5 rfl rfl rfl rfl rfl rfl rfl ⟨rfl, rfl, rfl, rfl, rfl⟩ rfl rfl rfl rfl rfl (by as_aux_lemma => kernel_rfl) Try.func5 boxFilmsComeBack_closed
    (of_decide_eq_true (by kernel_rfl)) (by unfold Func.isWrapper; first | (rw [if_pos (by decide +kernel)]; kernel_rfl) | (rw [if_neg (by decide +kernel)]; exact ⟨rfl, rfl⟩))
    (fun os started H enc _ => boxFilmsComeBack_lifted os started H enc)
#print axioms boxFilmsComeBack_holds
end Go.Proofs.Ytlonhkjplijlcaa
