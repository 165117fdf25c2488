/- Proved: for every scheme, key, iv, bytes and list KeyProtectsMatchSpec returns true: Protect and Open of the program and of the document give the same, with all errors; the arguments read as they did. Conditions: none. -/
import Derived.Test.YtifmgngmkajahaaCodE
import Derived.Test.YtifmgngmkajahaaOpen
import Derived.Test.YtifmgngmkajahaaAwake
namespace Go.Proofs.Ytifmgngmkajahaa
open Go.ChangeShapes Go.WideShapes Go.ChangeAt Go.RowKit Kc

set_option maxRecDepth 100000 in
set_option maxHeartbeats 4000000 in
theorem protects_any {A1 A2 A3 A4 : Option Addr} {c1 c2 c3 c4 n1 n2 n n4 : Nat} {k v b : List UInt8} {l : List (Int × Int)} {m c s : Int} {w : World} (h1 : At w 1 e8 A1 n1 c1 k) (h2 : At w 1 e8 A2 n2 c2 v) (h3 : At w 1 e8 A3 n c3 b) (h4 : At w 2 e2 A4 n4 c4 l) :
    Calls Try.prog 16 #[schV m c s, .slice A1 n1 c1, .slice A2 n2 c2, .slice A3 n c3, .slice A4 n4 c4] w fun e w' => e = .returned (.bool true) ∧ Ext w w' := by
  have hcl : ∀ W, Ext (w.alloc (.cells #[.int .i64 m, .int .i64 c, .int .i64 s] 57)) W →
      W.cell? ⟨w.heap.size, 0, none⟩ = some (.int .i64 m) ∧ W.cell? ⟨w.heap.size, 1, none⟩ = some (.int .i64 c) ∧ W.cell? ⟨w.heap.size, 2, none⟩ = some (.int .i64 s) ∧ w.heap.size < W.heap.size := fun W hW => by
    have b1 := (Blk.new w 57 #[.int .i64 m, .int .i64 c, .int .i64 s]).ext hW
    exact ⟨b1.cell 0, b1.cell 1, b1.cell 2, b1.lt⟩
  have HCL := hide hcl
  have HX := hide (Ext.alloc w (.cells #[.int .i64 m, .int .i64 c, .int .i64 s] 57))
  have KP := hide (fun (W : World) (hx : Ext w W) => keyProtect_any (m := m) (c := c) (s := s) (h1.ext hx) (h2.ext hx) (h3.ext hx) (h4.ext hx))
  have KO := hide (fun (W : World) (hx : Ext w W) => keyOpen_any (m := m) (c := c) (s := s) (h1.ext hx) (h2.ext hx) (h3.ext hx) (h4.ext hx))
  have RP := hide (fun (W : World) (hx : Ext w W) => refProtect_any (m := m) (c := c) (s := s) (h1.ext hx) (h2.ext hx) (h3.ext hx) (h4.ext hx))
  have RO := hide (fun (W : World) (hx : Ext w W) => refOpen_any (m := m) (c := c) (s := s) (h1.ext hx) (h2.ext hx) (h3.ext hx) (h4.ext hx))
  clear hcl h1 h2 h3 h4
  generalize codF m c s n1 n2 n l = F at *
  go_enter Try.func16, Try.ntmps16
  go_wp2_with fail
  refine (KP.out _ HX.out).mono ?_
  rintro e w1 ⟨A5, q5, d5, rfl, a5, e5⟩
  have E1 := hide e5
  have X1 := hide a5
  obtain ⟨k0, k1, k2, z1⟩ := HCL.out _ E1.out
  clear a5 e5
  go_wp2_with fail
  refine (RP.out _ (Ext.trans HX.out E1.out)).mono ?_
  rintro e w2 ⟨A6, q6, d6, rfl, a6, e6⟩
  have Y1 := hide (X1.out.ext e6)
  have X2 := hide a6
  have E2 := hide (Ext.trans E1.out e6)
  clear a6 e6 X1 E1 k0 k1 k2 z1
  obtain ⟨k0, k1, k2, z2⟩ := HCL.out _ E2.out
  go_wp2_with fail
  refine (bytesEq_true Y1.out X2.out rfl).mono ?_
  rintro e w' ⟨rfl, rfl⟩
  clear X2 Y1
  go_wp2_with fail
  refine (KO.out _ (Ext.trans HX.out E2.out)).mono ?_
  rintro e w3 ⟨A7, q7, d7, rfl, a7, e7⟩
  have E3 := hide (Ext.trans E2.out e7)
  have X3 := hide a7
  clear a7 e7 E2 k0 k1 k2 z2
  obtain ⟨k0, k1, k2, z3⟩ := HCL.out _ E3.out
  go_wp2_with fail
  refine (RO.out _ (Ext.trans HX.out E3.out)).mono ?_
  rintro e w4 ⟨A8, q8, d8, rfl, a8, e8'⟩
  have Y3 := hide (X3.out.ext e8')
  have X4 := hide a8
  have E4 := hide (Ext.trans HX.out (Ext.trans E3.out e8'))
  clear a8 e8' X3 E3 k0 k1 k2 z3
  go_wp2_with fail
  refine (bytesEq_true Y3.out X4.out rfl).mono ?_
  rintro e w' ⟨rfl, rfl⟩
  clear X4 Y3
  go_wp2_with fail
  refine (awake_any _).mono ?_
  rintro e w5 ⟨rfl, e9⟩
  have E5 := hide (Ext.trans E4.out e9)
  clear e9
  go_wp2
  go_ret
  exact ⟨rfl, E5.out⟩

set_option maxRecDepth 100000 in
theorem keyProtectsMatchSpec_lifted (os : Os) (started : os.Started) (H : Type) (enc : TypeId × Value → H) :
    ReturnsInHanded {} Try.checked os 16 .any (Rows.keyProtectsMatchSpecSpec.pre6 enc Try.prog Try.f16 Rows.keyProtectsMatchSpecRow.domain false) (Rows.keyProtectsMatchSpecSpec.post enc Try.prog Try.f16 false true false false) := by
  refine returnsInHanded_of_change_sized (C := Try.checked) Try.own started (by kernel_rfl) Try.func16
    (ChangeSpec.witness6 (enc := enc) (C := Try.checked) false ⟨#[], #[.agg #[.int .i64 1, .int .i64 0, .int .i64 0], .slice none 0 0, .slice none 0 0, .slice none 0 0, .slice none 0 0], []⟩ 8 (by kernel_rfl) (by kernel_rfl) (by kernel_rfl) (by kernel_rfl)) ?_
  intro W base args ds gs before hval0 hW _ _ _
  have hval : ∀ (j : Nat) t v, Try.f16.params[j]? = some t → args[j]? = some v → Value.okWide Try.prog W .any base t v := hval0
  have hW' := hW
  obtain ⟨p, q, hA0, hV, rfl, _, _⟩ := hW
  have hA : DataW.TrodAll enc Try.prog W 0 (fun _ => true) true Try.f16.params.toList args.toList ds p := hA0
  rw [Try.params16] at hA hval
  obtain ⟨v0, v1, v2, v3, v4, d0, d1, d2, d3, d4, p0, p1, p2, p3, p4, rfl, rfl, rfl, h0, h1, h2, h3, h4⟩ := trodAll_five hA
  obtain ⟨m0, c0, s0, rfl, _, _, _⟩ := open_scheme (hval 0 57 v0 rfl rfl) h0
  obtain ⟨A1, n1, c1, l1, rfl, hAt1, _⟩ := open_bytes (hval 1 22 v1 rfl rfl) h1
  obtain ⟨A2, n2, c2, l2, rfl, hAt2, _⟩ := open_bytes (hval 2 22 v2 rfl rfl) h2
  obtain ⟨A3, n3, c3, l3, rfl, hAt3, _⟩ := open_bytes (hval 3 22 v3 rfl rfl) h3
  obtain ⟨A4, n4, k4, l4, rfl, hAt4, _, _⟩ := open_subs (hval 4 44 v4 rfl rfl) h4
  refine (protects_any hAt1 hAt2 hAt3 hAt4).mono fun e W' ⟨he, hE⟩ => ?_
  subst he
  exact ⟨_, rfl, law_post Try.laidOut Try.underlying4 hW' rfl rfl rfl (by kernel_rfl) hE⟩
theorem keyProtectsMatchSpec_closed : joinedFacts Try.prog 16 Try.f16 Rows.keyProtectsMatchSpecSpec Rows.keyProtectsMatchSpecRow = true :=
  joined_of Try.laidOut Try.mapsRowed Try.plainKeys Try.stopsHeard Try.stopsNone Try.knobsNone Try.mayEnter Try.makeCut Try.liftsFinal rfl rfl rfl (by as_aux_lemma => kernel_rfl)
    (by as_aux_lemma => kernel_rfl) (by as_aux_lemma => kernel_rfl) (by as_aux_lemma => kernel_rfl) (by as_aux_lemma => kernel_rfl) (by as_aux_lemma => kernel_rfl) (by as_aux_lemma => kernel_rfl) (by as_aux_lemma => kernel_rfl) (by as_aux_lemma => kernel_rfl) (by as_aux_lemma => kernel_rfl) (by as_aux_lemma => kernel_rfl)
theorem keyProtectsMatchSpec_holds : Rows.KeyProtectsMatchSpecSaid :=
  OpenClaim.holds_of_wide 16 Try.f16 rfl rfl rfl rfl rfl rfl rfl ⟨rfl, rfl, rfl, rfl, rfl⟩ rfl rfl rfl rfl rfl (by as_aux_lemma => kernel_rfl) Try.func16 keyProtectsMatchSpec_closed
    (of_decide_eq_true (by kernel_rfl)) (by unfold Func.isWrapper; first | (rw [if_pos (by decide +kernel)]; kernel_rfl) | (rw [if_neg (by decide +kernel)]; exact ⟨rfl, rfl⟩))
    (fun os started H enc _ => keyProtectsMatchSpec_lifted os started H enc)
#print axioms keyProtectsMatchSpec_holds
end Go.Proofs.Ytifmgngmkajahaa
