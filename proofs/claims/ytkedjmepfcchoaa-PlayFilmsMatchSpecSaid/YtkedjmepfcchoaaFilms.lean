/- Proved: for every film, player and weights PlayFilmsMatchSpec returns true: CheckFilm, CheckPlayer, CheckWeights and MeanRates of the program and of the document give the same, with all errors; the arguments read as they did. Conditions: none. -/
import Derived.Test.YtkedjmepfcchoaaRates
import Derived.Test.YtkedjmepfcchoaaFilmA
import Derived.Test.YtkedjmepfcchoaaFilmD
import Derived.Test.YtkedjmepfcchoaaFilmE
import Derived.Test.YtkedjmepfcchoaaAwakeP
import Derived.Test.YtkedjmepfcchoaaIntsEq
import Derived.Test.YtkedjmepfcchoaaShows
namespace Go.Proofs.Ytkedjmepfcchoaa
open Go.ChangeShapes Go.WideShapes Go.ChangeAt Go.RowKit

/-- All cells of the three arguments. -/
def FilmCells (w W : World) (lA : Option Addr) (ln lc : Nat) (sA : Option Addr) (sn sc : Nat) (qA : Option Addr) (qn qc : Nat) (a0 a1 a2 a3 a4 a5 a6 a7 a8 a9 a10 a11 a12 a13 x y z : Int) : Prop :=
  W.cell? ⟨w.heap.size, 0, none⟩ = some (.slice lA ln lc) ∧ W.cell? ⟨w.heap.size, 1, none⟩ = some (.slice sA sn sc) ∧ W.cell? ⟨w.heap.size, 2, none⟩ = some (.slice qA qn qc) ∧ W.cell? ⟨w.heap.size + 1, 0, none⟩ = some (.int .i64 a0) ∧ W.cell? ⟨w.heap.size + 1, 1, none⟩ = some (.int .i64 a1) ∧ W.cell? ⟨w.heap.size + 1, 2, none⟩ = some (.int .i64 a2) ∧ W.cell? ⟨w.heap.size + 1, 3, none⟩ = some (.int .i64 a3) ∧ W.cell? ⟨w.heap.size + 1, 4, none⟩ = some (.int .i64 a4) ∧ W.cell? ⟨w.heap.size + 1, 5, none⟩ = some (.int .i64 a5) ∧ W.cell? ⟨w.heap.size + 1, 6, none⟩ = some (.int .i64 a6) ∧ W.cell? ⟨w.heap.size + 1, 7, none⟩ = some (.int .i64 a7) ∧ W.cell? ⟨w.heap.size + 1, 8, none⟩ = some (.int .i64 a8) ∧ W.cell? ⟨w.heap.size + 1, 9, none⟩ = some (.int .i64 a9) ∧ W.cell? ⟨w.heap.size + 1, 10, none⟩ = some (.int .i64 a10) ∧ W.cell? ⟨w.heap.size + 1, 11, none⟩ = some (.int .i64 a11) ∧ W.cell? ⟨w.heap.size + 1, 12, none⟩ = some (.int .i64 a12) ∧ W.cell? ⟨w.heap.size + 1, 13, none⟩ = some (.int .i64 a13) ∧ W.cell? ⟨w.heap.size + 1 + 1, 0, none⟩ = some (.int .i64 x) ∧ W.cell? ⟨w.heap.size + 1 + 1, 1, none⟩ = some (.int .i64 y) ∧ W.cell? ⟨w.heap.size + 1 + 1, 2, none⟩ = some (.int .i64 z)

theorem film_cells (w : World) (lA : Option Addr) (ln lc : Nat) (sA : Option Addr) (sn sc : Nat) (qA : Option Addr) (qn qc : Nat) (a0 a1 a2 a3 a4 a5 a6 a7 a8 a9 a10 a11 a12 a13 x y z : Int) {W : World} (hW : Ext (((w.alloc (.cells #[.slice lA ln lc, .slice sA sn sc, .slice qA qn qc] 25)).alloc (.cells #[.int .i64 a0, .int .i64 a1, .int .i64 a2, .int .i64 a3, .int .i64 a4, .int .i64 a5, .int .i64 a6, .int .i64 a7, .int .i64 a8, .int .i64 a9, .int .i64 a10, .int .i64 a11, .int .i64 a12, .int .i64 a13] 29)).alloc (.cells #[.int .i64 x, .int .i64 y, .int .i64 z] 27)) W) :
    FilmCells w W lA ln lc sA sn sc qA qn qc a0 a1 a2 a3 a4 a5 a6 a7 a8 a9 a10 a11 a12 a13 x y z := by
  have b1 := (((Blk.new w 25 #[.slice lA ln lc, .slice sA sn sc, .slice qA qn qc]).alloc (.cells #[.int .i64 a0, .int .i64 a1, .int .i64 a2, .int .i64 a3, .int .i64 a4, .int .i64 a5, .int .i64 a6, .int .i64 a7, .int .i64 a8, .int .i64 a9, .int .i64 a10, .int .i64 a11, .int .i64 a12, .int .i64 a13] 29)).alloc (.cells #[.int .i64 x, .int .i64 y, .int .i64 z] 27)).ext hW
  have b2 := ((Blk.new (w.alloc (.cells #[.slice lA ln lc, .slice sA sn sc, .slice qA qn qc] 25)) 29 #[.int .i64 a0, .int .i64 a1, .int .i64 a2, .int .i64 a3, .int .i64 a4, .int .i64 a5, .int .i64 a6, .int .i64 a7, .int .i64 a8, .int .i64 a9, .int .i64 a10, .int .i64 a11, .int .i64 a12, .int .i64 a13]).alloc (.cells #[.int .i64 x, .int .i64 y, .int .i64 z] 27)).ext hW
  have b3 := (Blk.new ((w.alloc (.cells #[.slice lA ln lc, .slice sA sn sc, .slice qA qn qc] 25)).alloc (.cells #[.int .i64 a0, .int .i64 a1, .int .i64 a2, .int .i64 a3, .int .i64 a4, .int .i64 a5, .int .i64 a6, .int .i64 a7, .int .i64 a8, .int .i64 a9, .int .i64 a10, .int .i64 a11, .int .i64 a12, .int .i64 a13] 29)) 27 #[.int .i64 x, .int .i64 y, .int .i64 z]).ext hW
  rw [World.size_alloc] at b2 b3
  rw [World.size_alloc] at b3
  exact ⟨b1.cell 0, b1.cell 1, b1.cell 2, b2.cell 0, b2.cell 1, b2.cell 2, b2.cell 3, b2.cell 4, b2.cell 5, b2.cell 6, b2.cell 7, b2.cell 8, b2.cell 9, b2.cell 10, b2.cell 11, b2.cell 12, b2.cell 13, b3.cell 0, b3.cell 1, b3.cell 2⟩

set_option maxRecDepth 100000 in
set_option maxHeartbeats 8000000 in
theorem films_any {lA : Option Addr} {ln lc : Nat} {sA : Option Addr} {sn sc : Nat} {qA : Option Addr} {qn qc : Nat} {L : List Int} {S : List (List Int)} {Q : List Int} {a0 a1 a2 a3 a4 a5 a6 a7 a8 a9 a10 a11 a12 a13 x y z : Int} {w : World} (h : Shw w lA ln lc sA sn sc qA qn qc L S Q) :
    Calls Try.prog 3 #[shV lA ln lc sA sn sc qA qn qc, plV a0 a1 a2 a3 a4 a5 a6 a7 a8 a9 a10 a11 a12 a13, .agg #[.int .i64 x, .int .i64 y, .int .i64 z]] w fun e w' => e = .returned (.bool true) ∧ Ext w w' := by
  have HCL := hide (fun (W : World) hW => film_cells w lA ln lc sA sn sc qA qn qc a0 a1 a2 a3 a4 a5 a6 a7 a8 a9 a10 a11 a12 a13 x y z (W := W) hW)
  have HX : Hid (Ext w (((w.alloc (.cells #[.slice lA ln lc, .slice sA sn sc, .slice qA qn qc] 25)).alloc (.cells #[.int .i64 a0, .int .i64 a1, .int .i64 a2, .int .i64 a3, .int .i64 a4, .int .i64 a5, .int .i64 a6, .int .i64 a7, .int .i64 a8, .int .i64 a9, .int .i64 a10, .int .i64 a11, .int .i64 a12, .int .i64 a13] 29)).alloc (.cells #[.int .i64 x, .int .i64 y, .int .i64 z] 27))) := hide (ext_alloc (ext_alloc (Ext.alloc _ _) _) _)
  have HH := hide h
  have HR1 := hide (fun (W : World) (hW : Ext w W) => keyRates_any (h.ext hW))
  have HR2 := hide (fun (W : World) (hW : Ext w W) => refRates_any (h.ext hW))
  have HF1 := hide (fun (W : World) (hW : Ext w W) => keyFilm_any (h.ext hW))
  have HF2 := hide (fun (W : World) (hW : Ext w W) => refFilm_any (h.ext hW))
  have HP1 := hide (fun (W : World) => keyPlr_any (d := a0) (s := a1) (r := a2) (f := a3) (i := a4) (k := a5) (l := a6) (t := a7) (lo := a8) (hi := a9) (a := a10) (x := a11) (y := a12) (z := a13) (w := W))
  have HP2 := hide (fun (W : World) => refPlr_any (d := a0) (s := a1) (r := a2) (f := a3) (i := a4) (k := a5) (l := a6) (t := a7) (lo := a8) (hi := a9) (a := a10) (x := a11) (y := a12) (z := a13) (w := W))
  have HW1 := hide (fun (W : World) => keyWts_any (a := x) (b := y) (c := z) (w := W))
  have HW2 := hide (fun (W : World) => refWts_any (a := x) (b := y) (c := z) (w := W))
  have HAW := hide (fun (W : World) => awake_any W)
  generalize mratesL L S Q = rl at *
  generalize filmF L S Q = ff at *
  generalize plrF a0 a1 a2 a3 a4 a5 a6 a7 a8 a9 a10 a11 a12 a13 = pf at *
  generalize wtsF x y z = wf at *
  clear h
  go_enter Try.func3, Try.ntmps3
  go_wp2_with fail
  refine (HR1.out _ HX.out).mono ?_
  rintro e w1 ⟨A1, n1, c1, rfl, r1, e1⟩
  obtain ⟨k0, k1, k2, _⟩ := HCL.out w1 e1
  have P1 := hide r1
  have E1 := hide e1
  clear r1 e1
  go_wp2_with fail
  refine (HR2.out _ (Ext.trans HX.out E1.out)).mono ?_
  rintro e w2 ⟨A2, n2, c2, rfl, r2, e2⟩
  have P2 := hide r2
  have P1 := hide (P1.out.ext e2)
  have E2 := hide (Ext.trans E1.out e2)
  have hcl := HCL.out w2 E2.out
  unfold FilmCells at hcl
  clear k0 k1 k2 r2 e2
  go_wp2_with fail
  have EX := Ext.drew w2
  go_region_held3 (fun w' => w'.cell? ⟨w.heap.size, 0, none⟩ = some (.slice lA ln lc) ∧ w'.cell? ⟨w.heap.size, 1, none⟩ = some (.slice sA sn sc) ∧ w'.cell? ⟨w.heap.size, 2, none⟩ = some (.slice qA qn qc) ∧ w'.cell? ⟨w.heap.size + 1, 0, none⟩ = some (.int .i64 a0) ∧ w'.cell? ⟨w.heap.size + 1, 1, none⟩ = some (.int .i64 a1) ∧ w'.cell? ⟨w.heap.size + 1, 2, none⟩ = some (.int .i64 a2) ∧ w'.cell? ⟨w.heap.size + 1, 3, none⟩ = some (.int .i64 a3) ∧ w'.cell? ⟨w.heap.size + 1, 4, none⟩ = some (.int .i64 a4) ∧ w'.cell? ⟨w.heap.size + 1, 5, none⟩ = some (.int .i64 a5) ∧ w'.cell? ⟨w.heap.size + 1, 6, none⟩ = some (.int .i64 a6) ∧ w'.cell? ⟨w.heap.size + 1, 7, none⟩ = some (.int .i64 a7) ∧ w'.cell? ⟨w.heap.size + 1, 8, none⟩ = some (.int .i64 a8) ∧ w'.cell? ⟨w.heap.size + 1, 9, none⟩ = some (.int .i64 a9) ∧ w'.cell? ⟨w.heap.size + 1, 10, none⟩ = some (.int .i64 a10) ∧ w'.cell? ⟨w.heap.size + 1, 11, none⟩ = some (.int .i64 a11) ∧ w'.cell? ⟨w.heap.size + 1, 12, none⟩ = some (.int .i64 a12) ∧ w'.cell? ⟨w.heap.size + 1, 13, none⟩ = some (.int .i64 a13) ∧ w'.cell? ⟨w.heap.size + 1 + 1, 0, none⟩ = some (.int .i64 x) ∧ w'.cell? ⟨w.heap.size + 1 + 1, 1, none⟩ = some (.int .i64 y) ∧ w'.cell? ⟨w.heap.size + 1 + 1, 2, none⟩ = some (.int .i64 z)) (first | exact HCL.out _ (Ext.trans E2.out EX)) (first
    | ((go_at_call 20; with_reducible refine (HF1.out _ (Ext.trans HX.out (Ext.trans E2.out EX))).mono ?_); rintro e w3 ⟨rfl, e3⟩; have EX := Ext.trans EX e3)
    | ((go_at_call 21; with_reducible refine (HF2.out _ (Ext.trans HX.out (Ext.trans E2.out EX))).mono ?_); rintro e w3 ⟨rfl, e3⟩; have EX := Ext.trans EX e3)
    | ((go_at_call 22; with_reducible refine (HP1.out _).mono ?_); rintro e w3 ⟨rfl, e3⟩; have EX := Ext.trans EX e3)
    | ((go_at_call 23; with_reducible refine (HP2.out _).mono ?_); rintro e w3 ⟨rfl, e3⟩; have EX := Ext.trans EX e3)
    | ((go_at_call 24; with_reducible refine (HW1.out _).mono ?_); rintro e w3 ⟨rfl, e3⟩; have EX := Ext.trans EX e3)
    | ((go_at_call 25; with_reducible refine (HW2.out _).mono ?_); rintro e w3 ⟨rfl, e3⟩; have EX := Ext.trans EX e3)
    | ((go_at_call 26; with_reducible refine (intsEq_true (P1.out.ext EX) (P2.out.ext EX)).mono ?_); rintro e w3 ⟨rfl, e3⟩; have EX := Ext.trans EX e3)
    | ((go_at_call 27; with_reducible refine (HAW.out _).mono ?_); rintro e w3 ⟨rfl, e3⟩; have EX := Ext.trans EX e3))
  have EF := hide (Ext.trans HX.out (Ext.trans E2.out EX))
  clear EX hcl
  go_wp2
  go_ret
  exact ⟨rfl, EF.out⟩

set_option maxRecDepth 100000 in
theorem playFilmsMatchSpec_lifted (os : Os) (started : os.Started) (H : Type) (enc : TypeId × Value → H) :
    ReturnsInHanded {} Try.checked os 3 .any (Rows.playFilmsMatchSpecSpec.pre6 enc Try.prog Try.f3 Rows.playFilmsMatchSpecRow.domain false) (Rows.playFilmsMatchSpecSpec.post enc Try.prog Try.f3 false true false false) := by
  refine returnsInHanded_of_change_sized (C := Try.checked) Try.own started (by kernel_rfl) Try.func3
    (ChangeSpec.witness6 (enc := enc) (C := Try.checked) false ⟨#[], #[.agg #[.slice none 0 0, .slice none 0 0, .slice none 0 0], .agg #[.int .i64 0, .int .i64 0, .int .i64 0, .int .i64 0, .int .i64 0, .int .i64 0, .int .i64 0, .int .i64 0, .int .i64 0, .int .i64 0, .int .i64 0, .int .i64 0, .int .i64 0, .int .i64 0], .agg #[.int .i64 0, .int .i64 0, .int .i64 0]], []⟩ 8 (by kernel_rfl) (by kernel_rfl) (by kernel_rfl) (by kernel_rfl)) ?_
  intro W base args ds gs before hval0 hW _ _ _
  have hval : ∀ (j : Nat) t v, Try.f3.params[j]? = some t → args[j]? = some v → Value.okWide Try.prog W .any base t v := hval0
  have hW' := hW
  obtain ⟨p, q, hA0, hV, rfl, _, _⟩ := hW
  have hA : DataW.TrodAll enc Try.prog W 0 (fun _ => true) true Try.f3.params.toList args.toList ds p := hA0
  rw [Try.params3] at hA hval
  obtain ⟨v0, v1, v2, d0, d1, d2, p0, p1, p2, rfl, rfl, rfl, h0, h1, h2⟩ := trodAll_three hA
  obtain ⟨lA, ln, lc, sA, sn, sc, qA, qn, qc, L, S, Q, rfl, hSh⟩ := open_show (hval 0 25 v0 rfl rfl) h0
  obtain ⟨a0, a1, a2, a3, a4, a5, a6, a7, a8, a9, a10, a11, a12, a13, rfl⟩ := open_player (hval 1 29 v1 rfl rfl) h1
  obtain ⟨x, y, z, rfl⟩ := open_weights (hval 2 27 v2 rfl rfl) h2
  refine (films_any hSh).mono fun e W' ⟨he, hE⟩ => ?_
  subst he
  exact ⟨_, rfl, law_post Try.laidOut Try.underlying4 hW' rfl rfl rfl (by kernel_rfl) hE⟩
theorem playFilmsMatchSpec_closed : joinedFacts Try.prog 3 Try.f3 Rows.playFilmsMatchSpecSpec Rows.playFilmsMatchSpecRow = true :=
  joined_of Try.laidOut Try.mapsRowed Try.plainKeys Try.stopsHeard Try.stopsNone Try.knobsNone Try.mayEnter Try.makeCut Try.liftsFinal rfl rfl rfl (by as_aux_lemma => kernel_rfl)
    (by as_aux_lemma => kernel_rfl) (by as_aux_lemma => kernel_rfl) (by as_aux_lemma => kernel_rfl) (by as_aux_lemma => kernel_rfl) (by as_aux_lemma => kernel_rfl) (by as_aux_lemma => kernel_rfl) (by as_aux_lemma => kernel_rfl) (by as_aux_lemma => kernel_rfl) (by as_aux_lemma => kernel_rfl) (by as_aux_lemma => kernel_rfl)
theorem playFilmsMatchSpec_holds : Rows.PlayFilmsMatchSpecSaid :=
  OpenClaim.holds_of_wide 3 Try.f3 rfl rfl rfl rfl rfl rfl rfl ⟨rfl, rfl, rfl, rfl, rfl⟩ rfl rfl rfl rfl rfl (by as_aux_lemma => kernel_rfl) Try.func3 playFilmsMatchSpec_closed
    (of_decide_eq_true (by kernel_rfl)) (by unfold Func.isWrapper; first | (rw [if_pos (by decide +kernel)]; kernel_rfl) | (rw [if_neg (by decide +kernel)]; exact ⟨rfl, rfl⟩))
    (fun os started H enc _ => playFilmsMatchSpec_lifted os started H enc)
#print axioms playFilmsMatchSpec_holds

end Go.Proofs.Ytkedjmepfcchoaa
