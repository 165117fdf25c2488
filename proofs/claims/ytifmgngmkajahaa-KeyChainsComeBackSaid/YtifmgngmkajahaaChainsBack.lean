/- Proved: for every key, iv and bytes KeyChainsComeBack returns true: Unchain takes Chain back and Chain takes Unchain back, and the bytes after the last whole block stay; the arguments read as they did. Conditions: none. -/
import Derived.Test.YtifmgngmkajahaaChainB
import Derived.Test.YtifmgngmkajahaaPlain
import Derived.Test.YtifmgngmkajahaaSlice
import Derived.Test.YtifmgngmkajahaaAwake
namespace Go.Proofs.Ytifmgngmkajahaa
open Go.ChangeShapes Go.WideShapes Go.ChangeAt Go.RowKit Kc

theorem xor8_xor8 (a b : List UInt8) (h : a.length = 8) : xor8 (xor8 a b) b = a := by
  match a, h with
  | [a0, a1, a2, a3, a4, a5, a6, a7], _ =>
    simp [xor8, List.range_succ, UInt8.xor_assoc]
theorem unch_ch (k : List UInt8) : ∀ (n : Nat) (last l : List UInt8), 8 * n ≤ l.length → unchL k n last (chainL k n last l) = l
  | 0, _, _, _ => rfl
  | n + 1, last, l, h => by
    rw [chainL, unchL]
    have hx : (encB k (xor8 (l.take 8) last)).length = 8 := length_encB _ _
    rw [List.take_append_of_le_length (by omega), List.take_of_length_le (by omega), List.drop_append, List.drop_of_length_le (by omega), hx, Nat.sub_self, List.drop_zero, List.nil_append, unch_ch k n _ _ (by simp; omega)]
    rw [decB_encB k _ (length_xor8 _ _), xor8_xor8 _ _ (by simp; omega), List.take_append_drop]
theorem ch_unch (k : List UInt8) : ∀ (n : Nat) (last l : List UInt8), 8 * n ≤ l.length → chainL k n last (unchL k n last l) = l
  | 0, _, _, _ => rfl
  | n + 1, last, l, h => by
    rw [unchL, chainL]
    have hx : (xor8 (decB k (l.take 8)) last).length = 8 := length_xor8 _ _
    rw [List.take_append_of_le_length (by omega), List.take_of_length_le (by omega), List.drop_append, List.drop_of_length_le (by omega), hx, Nat.sub_self, List.drop_zero, List.nil_append]
    rw [xor8_xor8 _ _ (length_decB _ _), encB_decB k _ (by simp; omega), ch_unch k n _ _ (by simp; omega), List.take_append_drop]
theorem chainL_tail (k : List UInt8) : ∀ (n : Nat) (last l : List UInt8), 8 * n ≤ l.length → (chainL k n last l).drop (8 * n) = l.drop (8 * n)
  | 0, _, _, _ => rfl
  | n + 1, last, l, h => by
    rw [chainL]
    have hx : (encB k (xor8 (l.take 8) last)).length = 8 := length_encB _ _
    rw [List.drop_append, List.drop_of_length_le (by omega), hx, List.nil_append, show 8 * (n + 1) - 8 = 8 * n by omega, chainL_tail k n _ _ (by simp; omega), List.drop_drop]
    congr 1; omega
theorem bytesEq_true {A1 A2 : Option Addr} {n1 c1 n2 c2 : Nat} {l m : List UInt8} {w : World} (h1 : At w 1 e8 A1 n1 c1 l) (h2 : At w 1 e8 A2 n2 c2 m) (h : l = m) :
    Calls Try.prog 20 #[.slice A1 n1 c1, .slice A2 n2 c2] w fun e w' => e = .returned (.bool true) ∧ w = w' := by
  have := bytesEq_any h1 h2
  rw [show (l == m) = true by simp [h]] at this
  exact this
theorem size1 : ∀ W, (Go.sizeOf 5).run Try.prog W = .ok 1 W := fun _ => by kernel_rfl

set_option maxRecDepth 100000 in
set_option maxHeartbeats 2000000 in
theorem chains_ok {A1 A2 A3 : Option Addr} {c1 c2 n c3 : Nat} {l m b : List UInt8} {w : World} (h1 : At w 1 e8 A1 16 c1 l) (h2 : At w 1 e8 A2 8 c2 m) (h3 : At w 1 e8 A3 n c3 b) (hn : n ≤ 100000) :
    Calls Try.prog 7 #[.slice A1 16 c1, .slice A2 8 c2, .slice A3 n c3] w fun e w' => e = .returned (.bool true) ∧ Ext w w' := by
  have hbl := h3.len
  have hnb := h3.bound
  have p1 := hide (unch_ch l (n / 8) m b (by omega))
  have p2 := hide (ch_unch l (n / 8) m b (by omega))
  have p3 := hide (chainL_tail l (n / 8) m b (by omega))
  have H1 := hide h1; have H2 := hide h2; have H3 := hide h3
  clear h1 h2 h3 hbl
  go_enter Try.func7, Try.ntmps7
  go_wp2_with fail
  refine (keyChain_ok H1.out H2.out H3.out hn).mono ?_
  rintro e w1 ⟨Ax, cx, rfl, ax, e1⟩
  have X1 := hide ax; have E1 := hide e1
  clear ax e1
  go_wp2_with fail
  refine (keyUnchain_ok (H1.out.ext E1.out) (H2.out.ext E1.out) (H3.out.ext E1.out) hn).mono ?_
  rintro e w2 ⟨Ay, cy, rfl, ay, e2⟩
  have Y2 := hide ay; have X2 := hide (X1.out.ext e2); have E2 := hide (Ext.trans E1.out e2)
  clear ay e2 X1
  go_wp2_with fail
  refine (awake_any _).mono ?_
  rintro e w3 ⟨rfl, e3⟩
  have Y3 := hide (Y2.out.ext e3); have X3 := hide (X2.out.ext e3); have E3 := hide (Ext.trans E2.out e3)
  clear e3 X2 Y2
  obtain ⟨Ax', sx, hx'⟩ := X3.out.from_ Try.underlying22 size1 (k := 8 * (n / 8)) (by omega) ((n : Int) / 8 * 8) (by omega)
  obtain ⟨Ab', sb, hb'⟩ := H3.out.from_ Try.underlying22 size1 (k := 8 * (n / 8)) (by omega) ((n : Int) / 8 * 8) (by omega)
  have HX' := hide hx'; have HB' := hide hb'
  clear hx' hb'
  go_wp2_with fail
  go_quiet ((go_at_call 20; with_reducible exact quiet_left (bytesEq_true ((HX'.out _ X3.out).ext (Ext.drewN _ _)) ((HB'.out _ H3.out).ext (Ext.trans E3.out (Ext.drewN _ _))) p3.out)))
  clear sx sb HX' HB'
  go_wp2_with fail
  have E4 := hide (Ext.trans E3.out (Ext.drewN w3 nq))
  refine (keyUnchain_ok (H1.out.ext E4.out) (H2.out.ext E4.out) (X3.out.ext (Ext.drewN _ _)) hn).mono ?_
  rintro e w5 ⟨Au, cu, rfl, au, e5⟩
  rw [p1.out] at au
  have U5 := hide au; have Y5 := hide (Y3.out.ext (Ext.trans (Ext.drewN _ _) e5)); have E5 := hide (Ext.trans E4.out e5)
  clear au e5 X3 Y3
  go_wp2_with fail
  refine (keyChain_ok (H1.out.ext E5.out) (H2.out.ext E5.out) Y5.out hn).mono ?_
  rintro e w6 ⟨Av, cv, rfl, av, e6⟩
  rw [p2.out] at av
  have V6 := hide av; have U6 := hide (U5.out.ext e6); have E6 := hide (Ext.trans E5.out e6)
  clear av e6
  go_wp2_with fail
  refine (bytesEq_true U6.out (H3.out.ext E6.out) rfl).mono ?_
  rintro e w7 ⟨rfl, rfl⟩
  go_wp2_with fail
  refine (bytesEq_true V6.out (H3.out.ext E6.out) rfl).mono ?_
  rintro e w7 ⟨rfl, rfl⟩
  go_wp2
  go_ret
  exact ⟨rfl, E6.out⟩

set_option maxHeartbeats 1000000 in
theorem chains_bad {A1 A2 A3 : Option Addr} {n1 n2 c1 c2 n c3 : Nat} {w : World} (h : modeF n1 n2 n ≠ 0) :
    Calls Try.prog 7 #[.slice A1 n1 c1, .slice A2 n2 c2, .slice A3 n c3] w fun e w' => e = .returned (.bool true) ∧ Ext w w' := by
  have hb : (modeF n1 n2 n != 0) = true := by rw [bne_iff_ne]; exact h
  have K1 := hide (fun W : World => keyChain_bad (A1 := A1) (A2 := A2) (A3 := A3) (c1 := c1) (c2 := c2) (c3 := c3) (w := W) h)
  have K2 := hide (fun W : World => keyUnchain_bad (A1 := A1) (A2 := A2) (A3 := A3) (c1 := c1) (c2 := c2) (c3 := c3) (w := W) h)
  generalize modeF n1 n2 n = r at *
  clear h
  go_enter Try.func7, Try.ntmps7
  go_wp2_with fail
  refine (K1.out _).mono ?_
  rintro e w1 ⟨rfl, rfl⟩
  go_wp2_with fail
  refine (K2.out _).mono ?_
  rintro e w1 ⟨rfl, rfl⟩
  go_wp2_with fail
  refine (awake_any _).mono ?_
  rintro e w7 ⟨rfl, e7⟩
  have E7 := hide e7
  clear e7
  go_wp2
  go_ret
  exact ⟨rfl, E7.out⟩

theorem modeF_zero {n1 n2 n : Nat} (h : modeF n1 n2 n = 0) : n1 = 16 ∧ n2 = 8 ∧ n ≤ 100000 := by
  unfold modeF at h
  split at h
  · omega
  · split at h
    · omega
    · omega
theorem chains_any {A1 A2 A3 : Option Addr} {n1 n2 c1 c2 n c3 : Nat} {l m b : List UInt8} {w : World} (h1 : At w 1 e8 A1 n1 c1 l) (h2 : At w 1 e8 A2 n2 c2 m) (h3 : At w 1 e8 A3 n c3 b) :
    Calls Try.prog 7 #[.slice A1 n1 c1, .slice A2 n2 c2, .slice A3 n c3] w fun e w' => e = .returned (.bool true) ∧ Ext w w' := by
  by_cases h : modeF n1 n2 n = 0
  · obtain ⟨rfl, rfl, hn⟩ := modeF_zero h
    exact chains_ok h1 h2 h3 hn
  · exact chains_bad h

set_option maxRecDepth 100000 in
theorem keyChainsComeBack_lifted (os : Os) (started : os.Started) (H : Type) (enc : TypeId × Value → H) :
    ReturnsInHanded {} Try.checked os 7 .any (Rows.keyChainsComeBackSpec.pre6 enc Try.prog Try.f7 Rows.keyChainsComeBackRow.domain false) (Rows.keyChainsComeBackSpec.post enc Try.prog Try.f7 false true false false) := by
  refine returnsInHanded_of_change_sized (C := Try.checked) Try.own started (by kernel_rfl) Try.func7
    (ChangeSpec.witness6 (enc := enc) (C := Try.checked) false ⟨#[], #[.slice none 0 0, .slice none 0 0, .slice none 0 0], []⟩ 8 (by kernel_rfl) (by kernel_rfl) (by kernel_rfl) (by kernel_rfl)) ?_
  intro W base args ds gs before hval0 hW _ _ _
  have hval : ∀ (j : Nat) t v, Try.f7.params[j]? = some t → args[j]? = some v → Value.okWide Try.prog W .any base t v := hval0
  have hW' := hW
  obtain ⟨p, q, hA0, hV, rfl, _, _⟩ := hW
  have hA : DataW.TrodAll enc Try.prog W 0 (fun _ => true) true Try.f7.params.toList args.toList ds p := hA0
  rw [Try.params7] at hA hval
  obtain ⟨v0, v1, v2, d0, d1, d2, p0, p1, p2, rfl, rfl, rfl, h0, h1, h2⟩ := trodAll_three hA
  obtain ⟨A0, n0, c0, l0, rfl, hAt0, _⟩ := open_bytes (hval 0 22 v0 rfl rfl) h0
  obtain ⟨A1, n1, c1, l1, rfl, hAt1, _⟩ := open_bytes (hval 1 22 v1 rfl rfl) h1
  obtain ⟨A2, n2, c2, l2, rfl, hAt2, _⟩ := open_bytes (hval 2 22 v2 rfl rfl) h2
  refine (chains_any hAt0 hAt1 hAt2).mono fun e W' ⟨he, hE⟩ => ?_
  subst he
  exact ⟨_, rfl, law_post Try.laidOut Try.underlying4 hW' rfl rfl rfl (by kernel_rfl) hE⟩
theorem keyChainsComeBack_closed : joinedFacts Try.prog 7 Try.f7 Rows.keyChainsComeBackSpec Rows.keyChainsComeBackRow = true :=
  joined_of Try.laidOut Try.mapsRowed Try.plainKeys Try.stopsHeard Try.stopsNone Try.knobsNone Try.mayEnter Try.makeCut Try.liftsFinal rfl rfl rfl (by as_aux_lemma => kernel_rfl)
    (by as_aux_lemma => kernel_rfl) (by as_aux_lemma => kernel_rfl) (by as_aux_lemma => kernel_rfl) (by as_aux_lemma => kernel_rfl) (by as_aux_lemma => kernel_rfl) (by as_aux_lemma => kernel_rfl) (by as_aux_lemma => kernel_rfl) (by as_aux_lemma => kernel_rfl) (by as_aux_lemma => kernel_rfl) (by as_aux_lemma => kernel_rfl)
theorem keyChainsComeBack_holds : Rows.KeyChainsComeBackSaid :=
  OpenClaim.holds_of_wide 7 Try.f7 rfl rfl rfl rfl rfl rfl rfl ⟨rfl, rfl, rfl, rfl, rfl⟩ rfl rfl rfl rfl rfl (by as_aux_lemma => kernel_rfl) Try.func7 keyChainsComeBack_closed
    (of_decide_eq_true (by kernel_rfl)) (by unfold Func.isWrapper; first | (rw [if_pos (by decide +kernel)]; kernel_rfl) | (rw [if_neg (by decide +kernel)]; exact ⟨rfl, rfl⟩))
    (fun os started H enc _ => keyChainsComeBack_lifted os started H enc)
#print axioms keyChainsComeBack_holds
end Go.Proofs.Ytifmgngmkajahaa
