/- Proved: for every key, iv, bytes, place and cut KeyCountersJoin returns true: bytes that Counter encrypts in two parts are encrypted as at once, and come back by the same way; the arguments read as they did. Conditions: none. -/
import Derived.Test.YtifmgngmkajahaaStreamB
import Derived.Test.YtifmgngmkajahaaConcat
import Derived.Test.YtifmgngmkajahaaSlice
import Derived.Test.YtifmgngmkajahaaInts
import Derived.Test.YtifmgngmkajahaaOpen
import Derived.Test.YtifmgngmkajahaaAwake
namespace Go.Proofs.Ytifmgngmkajahaa
open Go.ChangeShapes Go.WideShapes Go.ChangeAt Go.RowKit Kc

theorem length_ctrL (k v b : List UInt8) (p : Nat) : (ctrL k v b p).length = b.length := by unfold ctrL; rw [length_xrL]
theorem ctrL_get (k v b : List UInt8) (p j : Nat) (h : j < b.length) : (ctrL k v b p)[j]? = some (b[j] ^^^ byteAt k v (p + j)) := by
  unfold ctrL xrL
  rw [List.getElem?_map, List.getElem?_range h]
  simp only [Option.map_some]
  rw [strL_get _ _ _ _ _ h]
  simp [List.getD, h]
theorem ctrL_back (k v b : List UInt8) (p : Nat) : ctrL k v (ctrL k v b p) p = b := by
  apply List.ext_getElem?
  intro j
  by_cases h : j < b.length
  · have h2 : j < (ctrL k v b p).length := by rw [length_ctrL]; exact h
    have h3 := ctrL_get k v b p j h
    rw [ctrL_get _ _ _ _ _ h2]
    have h4 : (ctrL k v b p)[j] = b[j] ^^^ byteAt k v (p + j) := by
      have := List.getElem?_eq_getElem h2
      rw [this] at h3
      exact Option.some.inj h3
    rw [h4, UInt8.xor_assoc, UInt8.xor_self, UInt8.xor_zero, List.getElem?_eq_getElem h]
  · rw [List.getElem?_eq_none (by rw [length_ctrL, length_ctrL]; omega), List.getElem?_eq_none (by omega)]
theorem ctrL_join (k v b : List UInt8) (p m : Nat) (hm : m ≤ b.length) : ctrL k v b p = ctrL k v (b.take m) p ++ ctrL k v (b.drop m) (p + m) := by
  apply List.ext_getElem?
  intro j
  by_cases h : j < b.length
  · rw [ctrL_get _ _ _ _ _ h]
    by_cases hj : j < m
    · rw [List.getElem?_append_left (by rw [length_ctrL]; simp; omega), ctrL_get _ _ _ _ _ (by simp; omega)]
      simp
    · rw [List.getElem?_append_right (by rw [length_ctrL]; simp; omega), length_ctrL]
      have e : (b.take m).length = m := by simp; omega
      rw [e, ctrL_get _ _ _ _ _ (by simp; omega)]
      simp only [List.getElem_drop]
      have e2 : m + (j - m) = j := by omega
      have e3 : p + m + (j - m) = p + j := by omega
      simp only [e2, e3]
  · rw [List.getElem?_eq_none (by rw [length_ctrL]; omega), List.getElem?_eq_none (by rw [List.length_append, length_ctrL, length_ctrL]; simp; omega)]

theorem bytesEq_true {A1 A2 : Option Addr} {n1 c1 n2 c2 : Nat} {l m : List UInt8} {w : World} (h1 : At w 1 e8 A1 n1 c1 l) (h2 : At w 1 e8 A2 n2 c2 m) (h : l = m) :
    Calls Try.prog 20 #[.slice A1 n1 c1, .slice A2 n2 c2] w fun e w' => e = .returned (.bool true) ∧ w = w' := by
  have := bytesEq_any h1 h2
  rw [show (l == m) = true by simp [h]] at this
  exact this
theorem size1 : ∀ W, (Go.sizeOf 5).run Try.prog W = .ok 1 W := fun _ => by kernel_rfl
def ctrF (n1 n2 n : Nat) (p : Int) : Int := if modeF n1 n2 n ≠ 0 then modeF n1 n2 n else if p < 0 ∨ 1000000000000000 < p then 1 else 0
theorem modeF_zero {n1 n2 n : Nat} (h : modeF n1 n2 n = 0) : n1 = 16 ∧ n2 = 8 ∧ n ≤ 100000 := by
  unfold modeF at h
  split at h
  · omega
  · split at h
    · omega
    · omega
set_option maxHeartbeats 400000 in
theorem keyCounter_bad {A1 A2 A3 : Option Addr} {n1 n2 c1 c2 n c3 : Nat} {p : Int} {w : World} (h : ctrF n1 n2 n p ≠ 0) :
    Calls Try.prog 39 #[.slice A1 n1 c1, .slice A2 n2 c2, .slice A3 n c3, .int .i64 p] w fun e w' => e = .returned (.tuple #[.slice none 0 0, .int .i64 (ctrF n1 n2 n p)]) ∧ w = w' := by
  by_cases hm : modeF n1 n2 n = 0
  · obtain ⟨rfl, rfl, hn⟩ := modeF_zero hm
    have hp : p < 0 ∨ 1000000000000000 < p := by
      unfold ctrF at h
      rw [if_neg (by omega)] at h
      by_cases hp : p < 0 ∨ 1000000000000000 < p
      · exact hp
      · rw [if_neg hp] at h; exact absurd rfl h
    have hf : ctrF 16 8 n p = 1 := by unfold ctrF; rw [if_neg (by omega), if_pos hp]
    rw [hf]
    clear hf h hm
    go_enter Try.func39, Try.ntmps39
    go_wp2_with (first | ((go_at_call 89; with_reducible refine (modeFault_ok _ _ _ _ _ _ _ hn _).mono ?_); rintro e w' ⟨rfl, rfl⟩) | ((go_at_call 87; with_reducible refine (out_no ?_ _).mono ?_); (focus omega); rintro e w' ⟨rfl, rfl⟩) | ((go_at_call 87; with_reducible refine (out_yes ?_ _).mono ?_); (focus omega); rintro e w' ⟨rfl, rfl⟩))
    go_ret2
    exact ⟨rfl, rfl⟩
  · have hf : ctrF n1 n2 n p = modeF n1 n2 n := by unfold ctrF; rw [if_pos hm]
    rw [hf]
    have hb : (modeF n1 n2 n != 0) = true := by rw [bne_iff_ne]; exact hm
    have HC := hide (fun W : World => modeFault_bad A1 A2 A3 n1 n2 c1 c2 n c3 W)
    generalize modeF n1 n2 n = r at *
    clear hf h hm
    go_enter Try.func39, Try.ntmps39
    go_wp2_with fail
    refine (HC.out _).mono ?_
    rintro e w' ⟨rfl, rfl⟩
    go_wp2
    go_ret2
    exact ⟨rfl, rfl⟩

set_option maxRecDepth 100000 in
set_option maxHeartbeats 1000000 in
theorem join_bad {A1 A2 A3 : Option Addr} {n1 n2 c1 c2 n c3 : Nat} {p x : Int} {w : World} (h : ctrF n1 n2 n p ≠ 0) :
    Calls Try.prog 9 #[.slice A1 n1 c1, .slice A2 n2 c2, .slice A3 n c3, .int .i64 p, .int .i64 x] w fun e w' => e = .returned (.bool true) ∧ Ext w w' := by
  have hb : (ctrF n1 n2 n p != 0) = true := by rw [bne_iff_ne]; exact h
  have K1 := hide (fun W : World => keyCounter_bad (A1 := A1) (A2 := A2) (A3 := A3) (c1 := c1) (c2 := c2) (c3 := c3) (w := W) h)
  generalize ctrF n1 n2 n p = r at *
  clear h
  go_enter Try.func9, Try.ntmps9
  go_wp2_with fail
  refine (K1.out _).mono ?_
  rintro e w1 ⟨rfl, rfl⟩
  go_wp2_with fail
  refine (awake_any _).mono ?_
  rintro e w7 ⟨rfl, e7⟩
  have E7 := hide e7
  clear e7
  go_wp2
  go_ret
  exact ⟨rfl, E7.out⟩

set_option maxRecDepth 100000 in
set_option maxHeartbeats 4000000 in
theorem join_ok {A1 A2 A3 : Option Addr} {c1 c2 n c3 p : Nat} {x : Int} {k v b : List UInt8} {w : World} (h1 : At w 1 e8 A1 16 c1 k) (h2 : At w 1 e8 A2 8 c2 v) (h3 : At w 1 e8 A3 n c3 b) (hn : n ≤ 100000) (hp : p ≤ 1000000000000000)
    (hx : -9223372036854775808 ≤ x ∧ x ≤ 9223372036854775807) :
    Calls Try.prog 9 #[.slice A1 16 c1, .slice A2 8 c2, .slice A3 n c3, .int .i64 p, .int .i64 x] w fun e w' => e = .returned (.bool true) ∧ Ext w w' := by
  have hbl := h3.len
  have hle := h3.le
  have hcb := h3.boundc
  have hbw := fun W : World => below_any x ((n : Int) + 1) (by omega) (by omega) hx W
  have m0 : 0 ≤ x % ((n : Int) + 1) := Int.emod_nonneg _ (by omega)
  have m1 : x % ((n : Int) + 1) < (n : Int) + 1 := Int.emod_lt_of_pos _ (by omega)
  obtain ⟨m, hm⟩ : ∃ m : Nat, (m : Int) = x % ((n : Int) + 1) := ⟨(x % ((n : Int) + 1)).toNat, by omega⟩
  rw [← hm] at hbw m0 m1
  have HB := hide hbw
  have hmn : m ≤ n := by omega
  have J1 := hide (ctrL_join k v b p m (by omega))
  have J2 := hide (ctrL_back k v b p)
  have l1 : (ctrL k v (b.take m) p).length = m := by rw [length_ctrL]; simp; omega
  have l2 : (ctrL k v (b.drop m) (p + m)).length = n - m := by rw [length_ctrL]; simp; omega
  have L1 := hide l1; have L2 := hide l2
  obtain ⟨As, sb, hs⟩ := h3.from_ Try.underlying22 size1 (k := m) hmn (m : Int) rfl
  have HS := hide hs
  have hut := hide (h3.upto (k := m) hmn)
  have H1 := hide h1; have H2 := hide h2; have H3 := hide h3
  have mi : (m : Int) ≤ (c3 : Int) := by omega
  clear h1 h2 h3 hbl hbw hm l1 l2 hs hx m1
  go_enter Try.func9, Try.ntmps9
  go_wp2_with fail
  refine (keyCounter_ok H1.out H2.out H3.out hn hp).mono ?_
  rintro e w1 ⟨Ax, cx, rfl, ax, e1⟩
  have X1 := hide ax; have E1 := hide e1
  clear ax e1
  go_wp2_with fail
  refine (HB.out _).mono ?_
  rintro e w' ⟨rfl, rfl⟩
  by_cases hM : 1000000000000000 < (p : Int) + (m : Int)
  · go_wp2_with fail
    refine (awake_any _).mono ?_
    rintro e w7 ⟨rfl, e7⟩
    have E7 := hide (Ext.trans E1.out e7)
    clear e7
    go_wp2
    go_ret
    exact ⟨rfl, E7.out⟩
  have hM' : (p : Int) + (m : Int) ≤ 1000000000000000 := by omega
  clear hM
  go_wp2_with fail
  refine (keyCounter_ok (H1.out.ext E1.out) (H2.out.ext E1.out) (hut.out.ext E1.out) (by omega) hp).mono ?_
  rintro e w2 ⟨Ap, cp, rfl, ap, e2⟩
  have X2 := hide (X1.out.ext e2); have P2 := hide ap; have E2 := hide (Ext.trans E1.out e2)
  clear ap e2 X1
  go_wp2_with fail
  have hq := keyCounter_ok (p := p + m) (H1.out.ext E2.out) (H2.out.ext E2.out) ((HS.out _ H3.out).ext E2.out) (by omega) (by omega)
  rw [Int.natCast_add] at hq
  refine hq.mono ?_
  clear hq
  rintro e w3 ⟨Aq, cq, rfl, aq, e3⟩
  have X3 := hide (X2.out.ext e3); have P3 := hide (P2.out.ext e3); have Q3 := hide aq; have E3 := hide (Ext.trans E2.out e3)
  clear aq e3 X2 P2
  go_wp2_with fail
  refine (keyCounter_ok (H1.out.ext E3.out) (H2.out.ext E3.out) X3.out hn hp).mono ?_
  rintro e w4 ⟨Ay, cy, rfl, ay, e4⟩
  rw [J2.out] at ay
  have X4 := hide (X3.out.ext e4); have P4 := hide (P3.out.ext e4); have Q4 := hide (Q3.out.ext e4); have Y4 := hide ay; have E4 := hide (Ext.trans E3.out e4)
  clear ay e4 X3 P3 Q3 sb
  go_wp2_with fail
  refine (concat2_any (Aa := Ap) (na := m) (ca := cp) (Ab := Aq) (nb := n - m) (cb := cq) ((Blk.new w4 22 #[.slice Ap m cp, .slice Aq (n - m) cq]).cell 0) ((Blk.new w4 22 #[.slice Ap m cp, .slice Aq (n - m) cq]).cell 1) (P4.out.ext (Ext.alloc _ _)) (Q4.out.ext (Ext.alloc _ _)) (by omega)).mono ?_
  rintro e w5 ⟨v5, rfl, o5, e5⟩
  obtain ⟨A5, d5, hv5, a5⟩ := o5.at_ len_e8
  rw [List.length_append, L1.out, L2.out, show m + (n - m) = n by omega] at hv5 a5
  subst hv5
  have E54 : Ext w4 w5 := Ext.trans (Ext.alloc _ _) e5
  have X5 := hide (X4.out.ext E54); have Y5 := hide (Y4.out.ext E54); have C5 := hide a5; have E5 := hide (Ext.trans E4.out E54)
  clear o5 e5 a5 E54 X4 Y4 P4 Q4
  go_wp2_with fail
  refine (bytesEq_true X5.out C5.out J1.out).mono ?_
  rintro e w' ⟨rfl, rfl⟩
  go_wp2_with fail
  refine (bytesEq_true Y5.out (H3.out.ext E5.out) rfl).mono ?_
  rintro e w' ⟨rfl, rfl⟩
  go_wp2_with fail
  refine (awake_any _).mono ?_
  rintro e w7 ⟨rfl, e7⟩
  have E7 := hide (Ext.trans E5.out e7)
  clear e7
  go_wp2
  go_ret
  exact ⟨rfl, E7.out⟩

theorem join_any {A1 A2 A3 : Option Addr} {n1 n2 c1 c2 n c3 : Nat} {p x : Int} {k v b : List UInt8} {w : World} (h1 : At w 1 e8 A1 n1 c1 k) (h2 : At w 1 e8 A2 n2 c2 v) (h3 : At w 1 e8 A3 n c3 b)
    (hx : -9223372036854775808 ≤ x ∧ x ≤ 9223372036854775807) :
    Calls Try.prog 9 #[.slice A1 n1 c1, .slice A2 n2 c2, .slice A3 n c3, .int .i64 p, .int .i64 x] w fun e w' => e = .returned (.bool true) ∧ Ext w w' := by
  by_cases h : ctrF n1 n2 n p = 0
  · have hm : modeF n1 n2 n = 0 := by
      unfold ctrF at h
      split at h
      · exact h
      · rename_i h2; exact Classical.not_not.1 h2
    have hp : ¬ (p < 0 ∨ 1000000000000000 < p) := by
      intro hp
      unfold ctrF at h
      rw [if_neg (by omega), if_pos hp] at h
      omega
    obtain ⟨rfl, rfl, hn⟩ := modeF_zero hm
    obtain ⟨q, rfl⟩ : ∃ q : Nat, p = (q : Int) := ⟨p.toNat, by omega⟩
    exact join_ok h1 h2 h3 hn (by omega) hx
  · exact join_bad h

set_option maxRecDepth 100000 in
theorem keyCountersJoin_lifted (os : Os) (started : os.Started) (H : Type) (enc : TypeId × Value → H) :
    ReturnsInHanded {} Try.checked os 9 .any (Rows.keyCountersJoinSpec.pre6 enc Try.prog Try.f9 Rows.keyCountersJoinRow.domain false) (Rows.keyCountersJoinSpec.post enc Try.prog Try.f9 false true false false) := by
  refine returnsInHanded_of_change_sized (C := Try.checked) Try.own started (by kernel_rfl) Try.func9
    (ChangeSpec.witness6 (enc := enc) (C := Try.checked) false ⟨#[], #[.slice none 0 0, .slice none 0 0, .slice none 0 0, .int .i64 0, .int .i64 0], []⟩ 8 (by kernel_rfl) (by kernel_rfl) (by kernel_rfl) (by kernel_rfl)) ?_
  intro W base args ds gs before hval0 hW _ _ _
  have hval : ∀ (j : Nat) t v, Try.f9.params[j]? = some t → args[j]? = some v → Value.okWide Try.prog W .any base t v := hval0
  have hW' := hW
  obtain ⟨p, q, hA0, hV, rfl, _, _⟩ := hW
  have hA : DataW.TrodAll enc Try.prog W 0 (fun _ => true) true Try.f9.params.toList args.toList ds p := hA0
  rw [Try.params9] at hA hval
  obtain ⟨v0, v1, v2, v3, v4, d0, d1, d2, d3, d4, p0, p1, p2, p3, p4, rfl, rfl, rfl, h0, h1, h2, h3, h4⟩ := trodAll_five hA
  obtain ⟨A0, n0, c0, l0, rfl, hAt0, _⟩ := open_bytes (hval 0 22 v0 rfl rfl) h0
  obtain ⟨A1, n1, c1, l1, rfl, hAt1, _⟩ := open_bytes (hval 1 22 v1 rfl rfl) h1
  obtain ⟨A2, n2, c2, l2, rfl, hAt2, _⟩ := open_bytes (hval 2 22 v2 rfl rfl) h2
  obtain ⟨x3, rfl, rfl, rfl, _⟩ := open_int Try.underlying3 (hval 3 3 v3 rfl rfl) h3
  obtain ⟨x4, rfl, rfl, rfl, w4⟩ := open_int Try.underlying3 (hval 4 3 v4 rfl rfl) h4
  refine (join_any hAt0 hAt1 hAt2 (wf_i64 w4)).mono fun e W' ⟨he, hE⟩ => ?_
  subst he
  exact ⟨_, rfl, law_post Try.laidOut Try.underlying4 hW' rfl rfl rfl (by kernel_rfl) hE⟩
theorem keyCountersJoin_closed : joinedFacts Try.prog 9 Try.f9 Rows.keyCountersJoinSpec Rows.keyCountersJoinRow = true :=
  joined_of Try.laidOut Try.mapsRowed Try.plainKeys Try.stopsHeard Try.stopsNone Try.knobsNone Try.mayEnter Try.makeCut Try.liftsFinal rfl rfl rfl (by as_aux_lemma => kernel_rfl)
    (by as_aux_lemma => kernel_rfl) (by as_aux_lemma => kernel_rfl) (by as_aux_lemma => kernel_rfl) (by as_aux_lemma => kernel_rfl) (by as_aux_lemma => kernel_rfl) (by as_aux_lemma => kernel_rfl) (by as_aux_lemma => kernel_rfl) (by as_aux_lemma => kernel_rfl) (by as_aux_lemma => kernel_rfl) (by as_aux_lemma => kernel_rfl)
theorem keyCountersJoin_holds : Rows.KeyCountersJoinSaid :=
  OpenClaim.holds_of_wide 9 Try.f9 rfl rfl rfl rfl rfl rfl rfl ⟨rfl, rfl, rfl, rfl, rfl⟩ rfl rfl rfl rfl rfl (by as_aux_lemma => kernel_rfl) Try.func9 keyCountersJoin_closed
    (of_decide_eq_true (by kernel_rfl)) (by unfold Func.isWrapper; first | (rw [if_pos (by decide +kernel)]; kernel_rfl) | (rw [if_neg (by decide +kernel)]; exact ⟨rfl, rfl⟩))
    (fun os started H enc _ => keyCountersJoin_lifted os started H enc)
#print axioms keyCountersJoin_holds
end Go.Proofs.Ytifmgngmkajahaa
