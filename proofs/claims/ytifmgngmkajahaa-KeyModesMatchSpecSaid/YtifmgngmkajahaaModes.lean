/- Proved: for every key, iv, bytes and place KeyModesMatchSpec returns true: Counter, Chain and Unchain of the program and of the document give the same, with all errors; the arguments read as they did. Conditions: none. -/
import Derived.Test.YtifmgngmkajahaaStreamE
import Derived.Test.YtifmgngmkajahaaRefModes
import Derived.Test.YtifmgngmkajahaaOpen
import Derived.Test.YtifmgngmkajahaaPairs
import Derived.Test.YtifmgngmkajahaaAwake
namespace Go.Proofs.Ytifmgngmkajahaa
open Go.ChangeShapes Go.WideShapes Go.ChangeAt Go.RowKit Kc

def chnV (k v b : List UInt8) (n1 n2 n : Nat) : List UInt8 := if modeF n1 n2 n ≠ 0 then [] else chainL k (n / 8) v b
def uncV (k v b : List UInt8) (n1 n2 n : Nat) : List UInt8 := if modeF n1 n2 n ≠ 0 then [] else unchL k (n / 8) v b
theorem keyChain_any {A1 A2 A3 : Option Addr} {n1 n2 c1 c2 n c3 : Nat} {k v b : List UInt8} {w : World} (h1 : At w 1 e8 A1 n1 c1 k) (h2 : At w 1 e8 A2 n2 c2 v) (h3 : At w 1 e8 A3 n c3 b) :
    Calls Try.prog 32 #[.slice A1 n1 c1, .slice A2 n2 c2, .slice A3 n c3] w (Gives 1 e8 w (chnV k v b n1 n2 n) (modeF n1 n2 n)) := by
  by_cases h : modeF n1 n2 n = 0
  · unfold chnV
    rw [if_neg (by omega)]
    obtain ⟨rfl, rfl, hn⟩ := modeF_zero h
    rw [h]
    exact (keyChain_ok h1 h2 h3 hn).mono fun e w' ⟨A, c, he, ha, hx⟩ => ⟨A, n, c, he, ha, hx⟩
  · unfold chnV
    rw [if_pos h]
    refine (keyChain_bad h).mono fun e w' hh => ?_
    obtain ⟨rfl, rfl⟩ := hh
    exact gives_nil _ (Ext.refl _)
theorem refChain_any {A1 A2 A3 : Option Addr} {n1 n2 c1 c2 n c3 : Nat} {k v b : List UInt8} {w : World} (h1 : At w 1 e8 A1 n1 c1 k) (h2 : At w 1 e8 A2 n2 c2 v) (h3 : At w 1 e8 A3 n c3 b) :
    Calls Try.prog 42 #[.slice A1 n1 c1, .slice A2 n2 c2, .slice A3 n c3] w (Gives 1 e8 w (chnV k v b n1 n2 n) (modeF n1 n2 n)) := by
  by_cases h : modeF n1 n2 n = 0
  · unfold chnV
    rw [if_neg (by omega)]
    obtain ⟨rfl, rfl, hn⟩ := modeF_zero h
    rw [h]
    exact (refChain_ok h1 h2 h3 hn).mono fun e w' ⟨A, c, he, ha, hx⟩ => ⟨A, n, c, he, ha, hx⟩
  · unfold chnV
    rw [if_pos h]
    refine (refChain_bad h).mono fun e w' hh => ?_
    obtain ⟨rfl, rfl⟩ := hh
    exact gives_nil _ (Ext.refl _)
theorem keyUnchain_any {A1 A2 A3 : Option Addr} {n1 n2 c1 c2 n c3 : Nat} {k v b : List UInt8} {w : World} (h1 : At w 1 e8 A1 n1 c1 k) (h2 : At w 1 e8 A2 n2 c2 v) (h3 : At w 1 e8 A3 n c3 b) :
    Calls Try.prog 33 #[.slice A1 n1 c1, .slice A2 n2 c2, .slice A3 n c3] w (Gives 1 e8 w (uncV k v b n1 n2 n) (modeF n1 n2 n)) := by
  by_cases h : modeF n1 n2 n = 0
  · unfold uncV
    rw [if_neg (by omega)]
    obtain ⟨rfl, rfl, hn⟩ := modeF_zero h
    rw [h]
    exact (keyUnchain_ok h1 h2 h3 hn).mono fun e w' ⟨A, c, he, ha, hx⟩ => ⟨A, n, c, he, ha, hx⟩
  · unfold uncV
    rw [if_pos h]
    refine (keyUnchain_bad h).mono fun e w' hh => ?_
    obtain ⟨rfl, rfl⟩ := hh
    exact gives_nil _ (Ext.refl _)
theorem refUnchain_any {A1 A2 A3 : Option Addr} {n1 n2 c1 c2 n c3 : Nat} {k v b : List UInt8} {w : World} (h1 : At w 1 e8 A1 n1 c1 k) (h2 : At w 1 e8 A2 n2 c2 v) (h3 : At w 1 e8 A3 n c3 b) :
    Calls Try.prog 43 #[.slice A1 n1 c1, .slice A2 n2 c2, .slice A3 n c3] w (Gives 1 e8 w (uncV k v b n1 n2 n) (modeF n1 n2 n)) := by
  by_cases h : modeF n1 n2 n = 0
  · unfold uncV
    rw [if_neg (by omega)]
    obtain ⟨rfl, rfl, hn⟩ := modeF_zero h
    rw [h]
    exact (refUnchain_ok h1 h2 h3 hn).mono fun e w' ⟨A, c, he, ha, hx⟩ => ⟨A, n, c, he, ha, hx⟩
  · unfold uncV
    rw [if_pos h]
    refine (refUnchain_bad h).mono fun e w' hh => ?_
    obtain ⟨rfl, rfl⟩ := hh
    exact gives_nil _ (Ext.refl _)

set_option maxRecDepth 100000 in
set_option maxHeartbeats 4000000 in
theorem modes_any {A1 A2 A3 : Option Addr} {n1 n2 c1 c2 n c3 : Nat} {p : Int} {k v b : List UInt8} {w : World} (h1 : At w 1 e8 A1 n1 c1 k) (h2 : At w 1 e8 A2 n2 c2 v) (h3 : At w 1 e8 A3 n c3 b) :
    Calls Try.prog 10 #[.slice A1 n1 c1, .slice A2 n2 c2, .slice A3 n c3, .int .i64 p] w fun e w' => e = .returned (.bool true) ∧ Ext w w' := by
  have H1 := hide h1; have H2 := hide h2; have H3 := hide h3
  clear h1 h2 h3
  go_enter Try.func10, Try.ntmps10
  go_wp2_with fail
  refine (keyCounter_any H1.out H2.out H3.out p).mono ?_
  rintro e w1 ⟨A4, k4, c4, rfl, a4, e4⟩
  have E1 := hide e4
  have X1 := hide a4
  clear a4 e4
  go_wp2_with fail
  refine (refCounter_any (H1.out.ext E1.out) (H2.out.ext E1.out) (H3.out.ext E1.out) p).mono ?_
  rintro e w2 ⟨A5, k5, c5, rfl, a5, e5⟩
  have Y1 := hide (X1.out.ext e5)
  have X2 := hide a5
  have E2 := hide (Ext.trans E1.out e5)
  clear a5 e5 X1 E1
  generalize ctrF n1 n2 n p = f1 at *
  go_wp2_with fail
  refine (bytesEq_true Y1.out X2.out rfl).mono ?_
  rintro e w' ⟨rfl, rfl⟩
  clear X2 Y1
  go_wp2_with fail
  refine (keyChain_any (H1.out.ext E2.out) (H2.out.ext E2.out) (H3.out.ext E2.out)).mono ?_
  rintro e w3 ⟨A6, k6, c6, rfl, a6, e6⟩
  have E3 := hide (Ext.trans E2.out e6)
  have X3 := hide a6
  clear a6 e6 E2
  go_wp2_with fail
  refine (refChain_any (H1.out.ext E3.out) (H2.out.ext E3.out) (H3.out.ext E3.out)).mono ?_
  rintro e w4 ⟨A7, k7, c7, rfl, a7, e7⟩
  have Y3 := hide (X3.out.ext e7)
  have X4 := hide a7
  have E4 := hide (Ext.trans E3.out e7)
  clear a7 e7 X3 E3
  have HU := hide (fun (W : World) (h1 : At W 1 e8 A1 n1 c1 k) (h2 : At W 1 e8 A2 n2 c2 v) (h3 : At W 1 e8 A3 n c3 b) => keyUnchain_any h1 h2 h3)
  have HV := hide (fun (W : World) (h1 : At W 1 e8 A1 n1 c1 k) (h2 : At W 1 e8 A2 n2 c2 v) (h3 : At W 1 e8 A3 n c3 b) => refUnchain_any h1 h2 h3)
  generalize modeF n1 n2 n = f2 at *
  go_wp2_with fail
  refine (bytesEq_true Y3.out X4.out rfl).mono ?_
  rintro e w' ⟨rfl, rfl⟩
  clear X4 Y3
  go_wp2_with fail
  refine (HU.out _ (H1.out.ext E4.out) (H2.out.ext E4.out) (H3.out.ext E4.out)).mono ?_
  rintro e w5 ⟨A8, k8, c8, rfl, a8, e8'⟩
  have E5 := hide (Ext.trans E4.out e8')
  have X5 := hide a8
  clear a8 e8' E4
  go_wp2_with fail
  refine (HV.out _ (H1.out.ext E5.out) (H2.out.ext E5.out) (H3.out.ext E5.out)).mono ?_
  rintro e w6 ⟨A9, k9, c9, rfl, a9, e9⟩
  have Y5 := hide (X5.out.ext e9)
  have X6 := hide a9
  have E6 := hide (Ext.trans E5.out e9)
  clear a9 e9 X5 E5
  go_wp2_with fail
  refine (bytesEq_true Y5.out X6.out rfl).mono ?_
  rintro e w' ⟨rfl, rfl⟩
  clear X6 Y5
  go_wp2_with fail
  refine (awake_any _).mono ?_
  rintro e w7 ⟨rfl, e7⟩
  have E7 := hide (Ext.trans E6.out e7)
  clear e7
  go_wp2
  go_ret
  exact ⟨rfl, E7.out⟩

set_option maxRecDepth 100000 in
theorem keyModesMatchSpec_lifted (os : Os) (started : os.Started) (H : Type) (enc : TypeId × Value → H) :
    ReturnsInHanded {} Try.checked os 10 .any (Rows.keyModesMatchSpecSpec.pre6 enc Try.prog Try.f10 Rows.keyModesMatchSpecRow.domain false) (Rows.keyModesMatchSpecSpec.post enc Try.prog Try.f10 false true false false) := by
  refine returnsInHanded_of_change_sized (C := Try.checked) Try.own started (by kernel_rfl) Try.func10
    (ChangeSpec.witness6 (enc := enc) (C := Try.checked) false ⟨#[], #[.slice none 0 0, .slice none 0 0, .slice none 0 0, .int .i64 0], []⟩ 8 (by kernel_rfl) (by kernel_rfl) (by kernel_rfl) (by kernel_rfl)) ?_
  intro W base args ds gs before hval0 hW _ _ _
  have hval : ∀ (j : Nat) t v, Try.f10.params[j]? = some t → args[j]? = some v → Value.okWide Try.prog W .any base t v := hval0
  have hW' := hW
  obtain ⟨p, q, hA0, hV, rfl, _, _⟩ := hW
  have hA : DataW.TrodAll enc Try.prog W 0 (fun _ => true) true Try.f10.params.toList args.toList ds p := hA0
  rw [Try.params10] at hA hval
  obtain ⟨v0, v1, v2, v3, d0, d1, d2, d3, p0, p1, p2, p3, rfl, rfl, rfl, h0, h1, h2, h3⟩ := trodAll_four hA
  obtain ⟨A0, n0, c0, l0, rfl, hAt0, _⟩ := open_bytes (hval 0 22 v0 rfl rfl) h0
  obtain ⟨A1, n1, c1, l1, rfl, hAt1, _⟩ := open_bytes (hval 1 22 v1 rfl rfl) h1
  obtain ⟨A2, n2, c2, l2, rfl, hAt2, _⟩ := open_bytes (hval 2 22 v2 rfl rfl) h2
  obtain ⟨x3, rfl, rfl, rfl, _⟩ := open_int Try.underlying3 (hval 3 3 v3 rfl rfl) h3
  refine (modes_any hAt0 hAt1 hAt2).mono fun e W' ⟨he, hE⟩ => ?_
  subst he
  exact ⟨_, rfl, law_post Try.laidOut Try.underlying4 hW' rfl rfl rfl (by kernel_rfl) hE⟩
theorem keyModesMatchSpec_closed : joinedFacts Try.prog 10 Try.f10 Rows.keyModesMatchSpecSpec Rows.keyModesMatchSpecRow = true :=
  joined_of Try.laidOut Try.mapsRowed Try.plainKeys Try.stopsHeard Try.stopsNone Try.knobsNone Try.mayEnter Try.makeCut Try.liftsFinal rfl rfl rfl (by as_aux_lemma => kernel_rfl)
    (by as_aux_lemma => kernel_rfl) (by as_aux_lemma => kernel_rfl) (by as_aux_lemma => kernel_rfl) (by as_aux_lemma => kernel_rfl) (by as_aux_lemma => kernel_rfl) (by as_aux_lemma => kernel_rfl) (by as_aux_lemma => kernel_rfl) (by as_aux_lemma => kernel_rfl) (by as_aux_lemma => kernel_rfl) (by as_aux_lemma => kernel_rfl)
theorem keyModesMatchSpec_holds : Rows.KeyModesMatchSpecSaid :=
  OpenClaim.holds_of_wide 10 Try.f10 rfl rfl rfl rfl rfl rfl rfl ⟨rfl, rfl, rfl, rfl, rfl⟩ rfl rfl rfl rfl rfl (by as_aux_lemma => kernel_rfl) Try.func10 keyModesMatchSpec_closed
    (of_decide_eq_true (by kernel_rfl)) (by unfold Func.isWrapper; first | (rw [if_pos (by decide +kernel)]; kernel_rfl) | (rw [if_neg (by decide +kernel)]; exact ⟨rfl, rfl⟩))
    (fun os started H enc _ => keyModesMatchSpec_lifted os started H enc)
#print axioms keyModesMatchSpec_holds
end Go.Proofs.Ytifmgngmkajahaa
