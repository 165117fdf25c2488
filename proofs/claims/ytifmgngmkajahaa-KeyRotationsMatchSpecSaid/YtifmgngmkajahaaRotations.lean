/- Proved: for every rotation, secret, time, period and span KeyRotationsMatchSpec returns true: CheckRotation, PeriodAt, KeyId, KeyOf and Needed of the program and of the document give the same, with all errors; the arguments read as they did. Conditions: none. -/
import Derived.Test.YtifmgngmkajahaaRotE
import Derived.Test.YtifmgngmkajahaaIntsEq
import Derived.Test.YtifmgngmkajahaaOpen
import Derived.Test.YtifmgngmkajahaaAwake
namespace Go.Proofs.Ytifmgngmkajahaa
open Go.ChangeShapes Go.WideShapes Go.ChangeAt Go.RowKit Kc

theorem bytesEq_true {A1 A2 : Option Addr} {n1 c1 n2 c2 : Nat} {l m : List UInt8} {w : World} (h1 : At w 1 e8 A1 n1 c1 l) (h2 : At w 1 e8 A2 n2 c2 m) (h : l = m) :
    Calls Try.prog 20 #[.slice A1 n1 c1, .slice A2 n2 c2] w fun e w' => e = .returned (.bool true) ∧ w = w' := by
  have := bytesEq_any h1 h2
  rw [show (l == m) = true by simp [h]] at this
  exact this

set_option maxRecDepth 100000 in
set_option maxHeartbeats 4000000 in
theorem rotations_any {B E L : Int} {A A2 : Option Addr} {n c n2 d2 : Nat} {l s : List UInt8} {t p F T : Int} {w : World} (h : At w 1 e8 A n c l) (h2 : At w 1 e8 A2 n2 d2 s) :
    Calls Try.prog 13 #[rotV B E L A n c, .slice A2 n2 d2, .int .i64 t, .int .i64 p, spanV F T] w fun e w' => e = .returned (.bool true) ∧ Ext w w' := by
  have H := hide h; have H2 := hide h2
  clear h h2
  have hcl : ∀ W, Ext ((w.alloc (.cells #[.int .i64 B, .int .i64 E, .int .i64 L, .slice A n c] 31)).alloc (.cells #[.int .i64 F, .int .i64 T] 33)) W →
      W.cell? ⟨w.heap.size, 0, none⟩ = some (.int .i64 B) ∧ W.cell? ⟨w.heap.size, 1, none⟩ = some (.int .i64 E) ∧ W.cell? ⟨w.heap.size, 2, none⟩ = some (.int .i64 L) ∧ W.cell? ⟨w.heap.size, 3, none⟩ = some (.slice A n c) ∧
      W.cell? ⟨w.heap.size + 1, 0, none⟩ = some (.int .i64 F) ∧ W.cell? ⟨w.heap.size + 1, 1, none⟩ = some (.int .i64 T) ∧ w.heap.size + 1 < W.heap.size := fun W hW => by
    have b1 := ((Blk.new w 31 #[.int .i64 B, .int .i64 E, .int .i64 L, .slice A n c]).alloc (.cells #[.int .i64 F, .int .i64 T] 33)).ext hW
    have b2 := (Blk.new (w.alloc (.cells #[.int .i64 B, .int .i64 E, .int .i64 L, .slice A n c] 31)) 33 #[.int .i64 F, .int .i64 T]).ext hW
    rw [World.size_alloc] at b2
    exact ⟨b1.cell 0, b1.cell 1, b1.cell 2, b1.cell 3, b2.cell 0, b2.cell 1, b2.lt⟩
  have HCL := hide hcl
  have hx : Ext w ((w.alloc (.cells #[.int .i64 B, .int .i64 E, .int .i64 L, .slice A n c] 31)).alloc (.cells #[.int .i64 F, .int .i64 T] 33)) := ext_alloc (Ext.alloc _ _) _
  have HX := hide hx
  clear hcl hx
  go_enter Try.func13, Try.ntmps13
  go_wp2_with fail
  refine (keyPeriodAt_any B E L A n c t _).mono ?_
  rintro e w1 ⟨rfl, e1⟩
  obtain ⟨c0, c1, c2, c3, s0, s1, z1⟩ := HCL.out _ e1
  go_wp2_with fail
  refine (refPeriodAt_any B E L A n c t _).mono ?_
  rintro e w2 ⟨rfl, e2⟩
  have e2 := Ext.trans e1 e2
  clear c0 c1 c2 c3 s0 s1 z1 e1
  obtain ⟨c0, c1, c2, c3, s0, s1, z2⟩ := HCL.out _ e2
  generalize perV B E L n t = pv at *
  generalize perF B E L n t = pf at *
  go_wp2_with fail
  have HR1 := hide (fun W : World => keyCheckRotation_any B E L A n c W)
  have HR2 := hide (fun W : World => refCheckRotation_any B E L A n c W)
  generalize rotF B E L n = rf at *
  go_region_held3 (fun w' => w'.cell? ⟨w.heap.size, 0, none⟩ = some (.int .i64 B) ∧ w'.cell? ⟨w.heap.size, 1, none⟩ = some (.int .i64 E) ∧ w'.cell? ⟨w.heap.size, 2, none⟩ = some (.int .i64 L) ∧ w'.cell? ⟨w.heap.size, 3, none⟩ = some (.slice A n c)) (first | go_keep | exact ⟨E4.cell c0, E4.cell c1, E4.cell c2, E4.cell c3⟩ | exact ⟨E3.cell c0, E3.cell c1, E3.cell c2, E3.cell c3⟩) (first
    | ((go_at_call 53; with_reducible refine (HR1.out _).mono ?_); rintro e w3 ⟨rfl, e3⟩; have E3 : Ext w2 w3 := (by first | exact Ext.trans (Ext.drew _) e3 | exact Ext.trans E4 e3))
    | ((go_at_call 54; with_reducible refine (HR2.out _).mono ?_); rintro e w4 ⟨rfl, e4⟩; have E4 : Ext w2 w4 := (by first | exact Ext.trans (Ext.drew _) e4 | exact Ext.trans E3 e4)))
  have e4 : Ext ((w.alloc (.cells #[.int .i64 B, .int .i64 E, .int .i64 L, .slice A n c] 31)).alloc (.cells #[.int .i64 F, .int .i64 T] 33)) _ := Ext.trans e2 E4
  clear c0 c1 c2 c3 s0 s1 z2 E3 E4 e2 HR1 HR2
  obtain ⟨c0, c1, c2, c3, s0, s1, z4⟩ := HCL.out _ e4
  go_wp2_with fail
  refine (keyKeyId_any B E L (H.out.ext (Ext.trans HX.out e4)) p).mono ?_
  rintro e w5 ⟨A5, k5, d5, rfl, a5, e5⟩
  have X5 := hide a5
  have e5 := Ext.trans e4 e5
  clear c0 c1 c2 c3 s0 s1 z4 e4 a5
  obtain ⟨c0, c1, c2, c3, s0, s1, z5⟩ := HCL.out _ e5
  go_wp2_with fail
  refine (refKeyId_any B E L (H.out.ext (Ext.trans HX.out e5)) p).mono ?_
  rintro e w6 ⟨A6, k6, d6, rfl, a6, e6⟩
  have X6 := hide a6
  have Y5 := hide (X5.out.ext e6)
  have e6 := Ext.trans e5 e6
  clear c0 c1 c2 c3 s0 s1 z5 e5 a6 X5
  obtain ⟨c0, c1, c2, c3, s0, s1, z6⟩ := HCL.out _ e6
  generalize idF B E L n p = f1 at *
  go_wp2_with fail
  refine (bytesEq_true Y5.out X6.out rfl).mono ?_
  rintro e w' ⟨rfl, rfl⟩
  clear X6 Y5
  go_wp2_with fail
  refine (keyKeyOf_any B E L (H.out.ext (Ext.trans HX.out e6)) (H2.out.ext (Ext.trans HX.out e6)) p).mono ?_
  rintro e w7 ⟨A7, k7, d7, rfl, a7, e7⟩
  have X7 := hide a7
  have e7 := Ext.trans e6 e7
  clear c0 c1 c2 c3 s0 s1 z6 e6 a7
  obtain ⟨c0, c1, c2, c3, s0, s1, z7⟩ := HCL.out _ e7
  go_wp2_with fail
  refine (refKeyOf_any B E L (H.out.ext (Ext.trans HX.out e7)) (H2.out.ext (Ext.trans HX.out e7)) p).mono ?_
  rintro e w8 ⟨A8, k8, d8, rfl, a8, e8⟩
  have X8 := hide a8
  have Y7 := hide (X7.out.ext e8)
  have e8 := Ext.trans e7 e8
  clear c0 c1 c2 c3 s0 s1 z7 e7 a8 X7
  obtain ⟨c0, c1, c2, c3, s0, s1, z8⟩ := HCL.out _ e8
  generalize ofF B E L n n2 p = f2 at *
  go_wp2_with fail
  refine (bytesEq_true Y7.out X8.out rfl).mono ?_
  rintro e w' ⟨rfl, rfl⟩
  clear X8 Y7
  go_wp2_with fail
  refine (keyNeeded_any B E L A n c F T _).mono ?_
  rintro e w9 ⟨A9, k9, d9, rfl, a9, e9⟩
  have X9 := hide a9
  have e9 := Ext.trans e8 e9
  clear c0 c1 c2 c3 s0 s1 z8 e8 a9
  obtain ⟨c0, c1, c2, c3, s0, s1, z9⟩ := HCL.out _ e9
  go_wp2_with fail
  refine (refNeeded_any B E L A n c F T _).mono ?_
  rintro e w10 ⟨A10, k10, d10, rfl, a10, e10⟩
  have X10 := hide a10
  have Y9 := hide (X9.out.ext e10)
  have E10 := hide (Ext.trans HX.out (Ext.trans e9 e10))
  clear c0 c1 c2 c3 s0 s1 z9 e9 a10 X9 e10
  generalize needF B E L n F T = f3 at *
  go_wp2_with fail
  refine (intsEq_true Y9.out X10.out).mono ?_
  rintro e w11 ⟨rfl, e11⟩
  have E11 := hide (Ext.trans E10.out e11)
  clear e11
  go_wp2_with fail
  refine (awake_any _).mono ?_
  rintro e w12 ⟨rfl, e12⟩
  have E12 := hide (Ext.trans E11.out e12)
  clear e12
  go_wp2
  go_ret
  exact ⟨rfl, E12.out⟩

set_option maxRecDepth 100000 in
theorem keyRotationsMatchSpec_lifted (os : Os) (started : os.Started) (H : Type) (enc : TypeId × Value → H) :
    ReturnsInHanded {} Try.checked os 13 .any (Rows.keyRotationsMatchSpecSpec.pre6 enc Try.prog Try.f13 Rows.keyRotationsMatchSpecRow.domain false) (Rows.keyRotationsMatchSpecSpec.post enc Try.prog Try.f13 false true false false) := by
  refine returnsInHanded_of_change_sized (C := Try.checked) Try.own started (by kernel_rfl) Try.func13
    (ChangeSpec.witness6 (enc := enc) (C := Try.checked) false ⟨#[], #[.agg #[.int .i64 0, .int .i64 1, .int .i64 0, .slice none 0 0], .slice none 0 0, .int .i64 0, .int .i64 0, .agg #[.int .i64 0, .int .i64 1]], []⟩ 8 (by kernel_rfl) (by kernel_rfl) (by kernel_rfl) (by kernel_rfl)) ?_
  intro W base args ds gs before hval0 hW _ _ _
  have hval : ∀ (j : Nat) t v, Try.f13.params[j]? = some t → args[j]? = some v → Value.okWide Try.prog W .any base t v := hval0
  have hW' := hW
  obtain ⟨p, q, hA0, hV, rfl, _, _⟩ := hW
  have hA : DataW.TrodAll enc Try.prog W 0 (fun _ => true) true Try.f13.params.toList args.toList ds p := hA0
  rw [Try.params13] at hA hval
  obtain ⟨v0, v1, v2, v3, v4, d0, d1, d2, d3, d4, p0, p1, p2, p3, p4, rfl, rfl, rfl, h0, h1, h2, h3, h4⟩ := trodAll_five hA
  obtain ⟨B0, E0, L0, A0, n0, c0, l0, rfl, _, _, _, hAt0⟩ := open_rot (hval 0 31 v0 rfl rfl) h0
  obtain ⟨A1, n1, c1, l1, rfl, hAt1, _⟩ := open_bytes (hval 1 22 v1 rfl rfl) h1
  obtain ⟨x2, rfl, rfl, rfl, _⟩ := open_int Try.underlying3 (hval 2 3 v2 rfl rfl) h2
  obtain ⟨x3, rfl, rfl, rfl, _⟩ := open_int Try.underlying3 (hval 3 3 v3 rfl rfl) h3
  obtain ⟨F4, T4, rfl, _, _⟩ := open_span (hval 4 33 v4 rfl rfl) h4
  refine (rotations_any hAt0 hAt1).mono fun e W' ⟨he, hE⟩ => ?_
  subst he
  exact ⟨_, rfl, law_post Try.laidOut Try.underlying4 hW' rfl rfl rfl (by kernel_rfl) hE⟩
theorem keyRotationsMatchSpec_closed : joinedFacts Try.prog 13 Try.f13 Rows.keyRotationsMatchSpecSpec Rows.keyRotationsMatchSpecRow = true :=
  joined_of Try.laidOut Try.mapsRowed Try.plainKeys Try.stopsHeard Try.stopsNone Try.knobsNone Try.mayEnter Try.makeCut Try.liftsFinal rfl rfl rfl (by as_aux_lemma => kernel_rfl)
    (by as_aux_lemma => kernel_rfl) (by as_aux_lemma => kernel_rfl) (by as_aux_lemma => kernel_rfl) (by as_aux_lemma => kernel_rfl) (by as_aux_lemma => kernel_rfl) (by as_aux_lemma => kernel_rfl) (by as_aux_lemma => kernel_rfl) (by as_aux_lemma => kernel_rfl) (by as_aux_lemma => kernel_rfl) (by as_aux_lemma => kernel_rfl)
theorem keyRotationsMatchSpec_holds : Rows.KeyRotationsMatchSpecSaid :=
  OpenClaim.holds_of_wide 13 Try.f13 rfl rfl rfl rfl rfl rfl rfl ⟨rfl, rfl, rfl, rfl, rfl⟩ rfl rfl rfl rfl rfl (by as_aux_lemma => kernel_rfl) Try.func13 keyRotationsMatchSpec_closed
    (of_decide_eq_true (by kernel_rfl)) (by unfold Func.isWrapper; first | (rw [if_pos (by decide +kernel)]; kernel_rfl) | (rw [if_neg (by decide +kernel)]; exact ⟨rfl, rfl⟩))
    (fun os started H enc _ => keyRotationsMatchSpec_lifted os started H enc)
#print axioms keyRotationsMatchSpec_holds
end Go.Proofs.Ytifmgngmkajahaa
