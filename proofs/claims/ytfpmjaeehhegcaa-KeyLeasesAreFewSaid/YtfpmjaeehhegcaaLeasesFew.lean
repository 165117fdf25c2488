/- Proved: for all seats, asks and picks KeyLeasesAreFew returns true: never more leases of a user last than there are seats, and who is refused finds all of them taken; the arguments read as they did. Conditions: none. -/
import Derived.Test.YtfpmjaeehhegcaaOpenS
import Derived.Test.YtfpmjaeehhegcaaInts
namespace Go.Proofs.Ytfpmjaeehhegcaa
open Go.ChangeShapes Go.WideShapes Go.ChangeAt Go.RowKit

theorem asksF_upto {L : List SeatV} {Q : List AskV} (h : asksF L Q = 0) (k : Nat) : asksF L (Q.take k) = 0 := by
  obtain ⟨h1, h2, h3⟩ := asksF_ok h
  have hl : (Q.take k).length ≤ Q.length := by simp; omega
  unfold asksF
  rw [if_neg (by omega), if_neg (by omega)]
  refine firstF_zero fun j hj => ?_
  have e := h3 j (by omega)
  have hg : ∀ i, i ≤ j → (Q.take k).getD i d0A = Q.getD i d0A := fun i hi => by
    have : i < (Q.take k).length := by omega
    have h4 : i < k := by simp at this; omega
    simp [List.getD, List.getElem?_take, h4]
  unfold askEl at e ⊢
  rw [hg j (Nat.le_refl _), hg (j - 1) (by omega)]
  exact e
theorem asks_rising {L : List SeatV} {Q : List AskV} (h : asksF L Q = 0) : RisingA Q := by
  intro i hi x y hx hy
  obtain ⟨_, _, h3⟩ := asksF_ok h
  have := (askEl_ok (h3 (i + 1) hi)).2.2.2 (by omega)
  simp only [Nat.add_sub_cancel] at this
  simp only [List.getD, hx, hy, Option.getD] at this
  exact this
theorem asks_below {L : List SeatV} {Q : List AskV} (h : asksF L Q = 0) {k : Nat} (hk : k < Q.length) : ∀ d, d ≤ k → (Q.getD (k - d) d0A).1 ≤ (Q.getD k d0A).1
  | 0, _ => Int.le_refl _
  | d + 1, hd => by
    have ih := asks_below h hk d (by omega)
    obtain ⟨_, _, h3⟩ := asksF_ok h
    have := (askEl_ok (h3 (k - d) (by omega))).2.2.2 (by omega)
    rw [show k - d - 1 = k - (d + 1) by omega] at this
    omega
theorem watchL_all {L : List SeatV} {Q : List AskV} (h : asksF L Q = 0) {k : Nat} (hk : k < Q.length) : watchL (Q.take (k + 1)) (Q.getD k d0A).1 = Q.take (k + 1) := by
  unfold watchL
  rw [List.filter_eq_self]
  intro x hx
  obtain ⟨j, hj, rfl⟩ := mem_getD d0A hx
  have hj1 : j < k + 1 := by simp at hj; omega
  have e : (Q.take (k + 1)).getD j d0A = Q.getD j d0A := by simp [List.getD, List.getElem?_take, hj1]
  have := asks_below h hk (k - j) (by omega)
  rw [show k - (k - j) = j by omega] at this
  rw [e]
  simpa using this
theorem watch_upto {L : List SeatV} {Q : List AskV} (h : asksF L Q = 0) {k : Nat} (hk : k < Q.length) :
    watchF L (Q.take (k + 1)) (Q.getD k d0A).2.1 (Q.getD k d0A).1 = 0 ∧ watchV L (Q.take (k + 1)) (Q.getD k d0A).2.1 (Q.getD k d0A).1 = (lastN (heldsF L (Q.take (k + 1))) (Q.getD k d0A).2.1 (Q.getD k d0A).1 : Nat) := by
  obtain ⟨_, _, h3⟩ := asksF_ok h
  obtain ⟨e1, e2, _⟩ := askEl_ok (h3 k hk)
  have hF : watchF L (Q.take (k + 1)) (Q.getD k d0A).2.1 (Q.getD k d0A).1 = 0 := by
    unfold watchF
    rw [if_neg (by rw [asksF_upto h]; decide), if_neg (by rw [e2.1]; decide), if_neg (by omega)]
  refine ⟨hF, ?_⟩
  unfold watchV
  rw [if_pos hF, watchL_all h hk]
theorem few_at {L : List SeatV} {Q : List AskV} (h : asksF L Q = 0) {k : Nat} (hk : k < Q.length) :
    fewB (watchV L (Q.take (k + 1)) (Q.getD k d0A).2.1 (Q.getD k d0A).1) (mostV L (Q.getD k d0A).2.1) (L.findIdx? (seatP (Q.getD k d0A).2.1)).isSome ((leasesF L Q).getD k (0, 0)).1 ((leasesF L Q).getD k (0, 0)).2 (Q.getD k d0A).1 (Q.getD k d0A).2.2.2 := by
  have hs := seatsF_ok (asksF_ok h).1
  have ha : Q[k]? = some (Q.getD k d0A) := by simp [List.getD, hk]
  have := few_law (fun s hs' => (hs s hs').1.1) (fun s hs' => (hs s hs').2.1) (asks_rising h) ha
  rw [(watch_upto h hk).2]
  have e : (leasesF L Q).getD k (0, 0) = (ansF L (heldsF L (Q.take k)) (Q.getD k d0A)).1 := by
    unfold leasesF
    simp [List.getD, hk]
  rw [e]
  unfold mostV
  exact this

set_option maxRecDepth 100000 in
set_option maxHeartbeats 4000000 in
theorem fewLaw_bad {A1 A2 : Option Addr} {n1 c1 n2 c2 : Nat} {L : List SeatV} {Q : List AskV} {w : World} (h1 : At w 3 eS A1 n1 c1 L) (hg : ∀ x ∈ L, okS x) (h2 : At w 4 eA A2 n2 c2 Q) (hq : ∀ x ∈ Q, okA x) (t : Int) (hz : asksF L Q ≠ 0 ∨ n2 = 0) :
    Calls Try.prog 3 #[.slice A1 n1 c1, .slice A2 n2 c2, .int .i64 t] w fun e w' => e = .returned (.bool true) ∧ Ext w w' := by
  have HL := hide (keyLease_any h1 hg h2 hq)
  have hb := h2.bound
  clear h1 hg h2 hq
  by_cases h0 : asksF L Q = 0
  · obtain rfl : n2 = 0 := by rcases hz with h | h; exact absurd h0 h; exact h
    rw [h0] at HL
    generalize leaV L Q = v at *
    clear hz h0
    go_enter Try.func3, Try.ntmps3
    go_wp2_with fail
    refine HL.out.mono ?_
    rintro e w1 ⟨A4, k4, c4, rfl, a4, e4⟩
    have E1 := hide e4
    clear a4 e4
    go_wp2_with fail
    refine (awake_any _).mono ?_
    rintro e w8 ⟨rfl, e8⟩
    have E8 := hide (Ext.trans E1.out e8)
    clear e8
    go_wp2
    go_ret
    exact ⟨rfl, E8.out⟩
  · have hv : leaV L Q = [] := by unfold leaV; rw [if_neg h0]
    rw [hv] at HL
    have hb' : (asksF L Q != 0) = true := by rw [bne_iff_ne]; exact h0
    generalize asksF L Q = r at *
    clear hz h0 hv
    go_enter Try.func3, Try.ntmps3
    go_wp2_with fail
    refine HL.out.mono ?_
    rintro e w1 ⟨A4, k4, c4, rfl, a4, e4⟩
    have E1 := hide e4
    obtain rfl : k4 = 0 := by have := a4.len; simpa using this.symm
    clear a4 e4
    go_wp2_with fail
    refine (awake_any _).mono ?_
    rintro e w8 ⟨rfl, e8⟩
    have E8 := hide (Ext.trans E1.out e8)
    clear e8
    go_wp2
    go_ret
    exact ⟨rfl, E8.out⟩
set_option maxRecDepth 100000 in
set_option maxHeartbeats 8000000 in
theorem fewLaw_ok {A1 A2 : Option Addr} {n1 c1 n2 c2 : Nat} {L : List SeatV} {Q : List AskV} {w : World} (h1 : At w 3 eS A1 n1 c1 L) (hg : ∀ x ∈ L, okS x) (h2 : At w 4 eA A2 n2 c2 Q) (hq : ∀ x ∈ Q, okA x) (t : Int) (ht : -9223372036854775808 ≤ t ∧ t ≤ 9223372036854775807) (hz : asksF L Q = 0) (hn : 0 < n2) :
    Calls Try.prog 3 #[.slice A1 n1 c1, .slice A2 n2 c2, .int .i64 t] w fun e w' => e = .returned (.bool true) ∧ Ext w w' := by
  have hlen := h2.len
  have hn2 : n2 ≤ 2000 := by have := (asksF_ok hz).2.1; omega
  have hle := h2.le
  have hmx := h2.boundc
  have HB := hide (fun (W : World) => below_any t n2 (by omega) (by omega) ht W)
  obtain ⟨k, hk⟩ : ∃ k : Nat, (k : Int) = t % (n2 : Int) := ⟨(t % (n2 : Int)).toNat, Int.toNat_of_nonneg (Int.emod_nonneg _ (by omega))⟩
  have hkl : k < n2 := by have := Int.emod_lt_of_pos t (show (0 : Int) < n2 by omega); omega
  rw [← hk] at HB
  have HL := hide (keyLease_any h1 hg h2 hq)
  have hv : leaV L Q = leasesF L Q := by unfold leaV; rw [if_pos hz]
  have hll : (leasesF L Q).length = n2 := by simp [leasesF, hlen]
  rw [hv, hz] at HL
  have HF := hide (few_at hz (k := k) (by omega))
  have hwf := (watch_upto hz (k := k) (by omega)).1
  have hu := hq _ (getD_mem Q k d0A (by omega))
  have HM := hide (fun (W : World) (hW : Ext w W) => mostOf_any (h1.ext hW) (Q.getD k d0A).2.1)
  have HW := hide (fun (W : World) (hW : Ext w W) => keyWatching_any (h1.ext hW) hg ((h2.upto (k := k + 1) (by omega)).ext hW) (fun x hx => hq x (List.mem_of_mem_take hx)) (Q.getD k d0A).2.1 hu.1 (Q.getD k d0A).1)
  rw [hwf] at HW
  have H2 := hide h2
  obtain ⟨b, off, rfl, _⟩ := h2.addr (by omega)
  have HC := hide (fun (W : World) (hW : Ext w W) (j : Nat) (u : Value) hu => (h2.ext hW).cellK hkl d0A j u hu)
  have i0 : (0 : Int) ≤ (k : Int) := by omega
  have i1 : (k : Int) < (n2 : Int) := by omega
  have i2 : (k : Int) + 1 ≤ (c2 : Int) := by omega
  have HLL := hide hll
  have HX := hide (fun (W : World) (b o c : Nat) (h : At W 2 e2 (some ⟨b, o, none⟩) n2 c (leasesF L Q)) => h.pair hkl)
  generalize watchV L (Q.take (k + 1)) (Q.getD k d0A).2.1 (Q.getD k d0A).1 = N at *
  generalize mostV L (Q.getD k d0A).2.1 = M at *
  generalize (L.findIdx? (seatP (Q.getD k d0A).2.1)).isSome = T at *
  generalize Q.getD k d0A = a at *
  obtain ⟨at_, au, as_, ak⟩ := a
  simp only at HF HC HM HW
  generalize (leasesF L Q).getD k (0, 0) = r at *
  obtain ⟨r1, r2⟩ := r
  simp only at HF HX
  clear h1 hg h2 hq hz hv hll hlen hwf hu hk
  go_enter Try.func3, Try.ntmps3
  go_wp2_with fail
  refine HL.out.mono ?_
  rintro e w1 ⟨A4, k4, c4, rfl, a4, e4⟩
  have E1 := hide e4
  have X1 := hide a4
  obtain rfl : k4 = n2 := by have := a4.len; have := HLL.out; omega
  clear a4 e4
  go_wp2_with fail
  obtain ⟨b4, off4, rfl, _⟩ := X1.out.addr (by omega)
  refine (HB.out _).mono ?_
  rintro e w' ⟨rfl, rfl⟩
  have s1 := HC.out w1 E1.out 1 _ rfl
  simp only at s1
  go_wp2_with fail
  refine (HM.out _ E1.out).mono ?_
  rintro e w2 ⟨rfl, e2⟩
  have E2 := hide (Ext.trans E1.out e2)
  have X2 := hide (X1.out.ext e2)
  clear e2 s1 X1
  have s0 := HC.out w2 E2.out 0 _ rfl
  have s1 := HC.out w2 E2.out 1 _ rfl
  simp only [Nat.add_zero] at s0 s1
  go_wp2_with fail
  have EX := Ext.drew w2
  have hw2 := E2.out
  have hwr : IntKind.i64.wrap ((k : Int) + 1) = (k : Int) + 1 := by rw [IntKind.wrap_i64]; omega
  have hNM : N ≤ M := HF.out.1
  have hto : ((k : Int) + 1).toNat = k + 1 := by omega
  have hi3 : (0 : Int) ≤ (k : Int) + 1 := by omega
  go_region_held3 (fun w' => w'.cell? ⟨b, off + k * 4, none⟩ = some (.int .i64 at_) ∧ w'.cell? ⟨b, off + k * 4 + 1, none⟩ = some (.string au)) (first | go_keep | exact ⟨EX.cell s0, EX.cell s1⟩) (first | ((go_at_call 11; with_reducible refine (HW.out _ (Ext.trans hw2 EX)).mono ?_); rintro e w5 ⟨rfl, e5⟩; have EX := Ext.trans EX e5))
  have E5 := hide (Ext.trans E2.out EX)
  have X5 := hide (X2.out.ext EX)
  clear hw2 EX hwr hto hi3 s0 s1 X2
  go_wp2_with fail
  refine (awake_any _).mono ?_
  rintro e w6 ⟨rfl, e6⟩
  have E6 := hide (Ext.trans E5.out e6)
  have X6 := hide (X5.out.ext e6)
  clear e6 X5 E5
  have s0 := HC.out w6 E6.out 0 _ rfl
  have s3 := HC.out w6 E6.out 3 _ rfl
  simp only [Nat.add_zero] at s0 s3
  obtain ⟨x0, x1⟩ := HX.out w6 b4 off4 c4 X6.out
  by_cases g0 : r1 = 0
  · obtain ⟨rfl, hk, hr⟩ := HF.out.2.1 g0
    subst g0
    clear HF HX HC HM HW HB HL
    by_cases hN : 0 < N
    · clear hk
      go_wp2_with fail
      go_quiet (fail)
      go_wp2
      go_ret
      exact ⟨rfl, below_drewN E6.out _⟩
    · obtain rfl : ak = 3 := by omega
      clear hk
      have hN' : decide (0 < N) = false := by simpa using hN
      clear hN
      go_wp2_with fail
      go_quiet (fail)
      go_wp2
      go_ret
      exact ⟨rfl, below_drewN E6.out _⟩
  have n0 : (r1 == 0) = false := by simpa using g0
  by_cases g1 : r1 = 17
  · obtain ⟨rfl, rfl⟩ := HF.out.2.2.1 g1
    subst g1
    clear HF HX HC HM HW HB HL
    go_wp2
    go_ret
    exact ⟨rfl, E6.out⟩
  have n1 : (r1 == 17) = false := by simpa using g1
  by_cases g2 : r1 = 14
  · obtain ⟨rfl, rfl⟩ := HF.out.2.2.2.1 g2
    subst g2
    clear HF HX HC HM HW HB HL
    go_wp2
    go_ret
    exact ⟨rfl, E6.out⟩
  obtain ⟨rfl, rfl, g3⟩ := HF.out.2.2.2.2 g0 g1 g2
  have g3' : (ak != 1) = true := by rw [bne_iff_ne]; exact g3
  clear HF HX HC HM HW HB HL g0 g1 g2 g3
  go_wp2
  go_ret
  exact ⟨rfl, E6.out⟩
theorem fewLaw_any {A1 A2 : Option Addr} {n1 c1 n2 c2 : Nat} {L : List SeatV} {Q : List AskV} {w : World} (h1 : At w 3 eS A1 n1 c1 L) (hg : ∀ x ∈ L, okS x) (h2 : At w 4 eA A2 n2 c2 Q) (hq : ∀ x ∈ Q, okA x) {t : Int} (ht : -9223372036854775808 ≤ t ∧ t ≤ 9223372036854775807) :
    Calls Try.prog 3 #[.slice A1 n1 c1, .slice A2 n2 c2, .int .i64 t] w fun e w' => e = .returned (.bool true) ∧ Ext w w' := by
  by_cases hz : asksF L Q = 0
  · by_cases hn : n2 = 0
    · exact fewLaw_bad h1 hg h2 hq t (.inr hn)
    · exact fewLaw_ok h1 hg h2 hq t ht hz (by omega)
  · exact fewLaw_bad h1 hg h2 hq t (.inl hz)

set_option maxRecDepth 100000 in
theorem keyLeasesAreFew_lifted (os : Os) (started : os.Started) (H : Type) (enc : TypeId × Value → H) :
    ReturnsInHanded {} Try.checked os 3 .any (Rows.keyLeasesAreFewSpec.pre6 enc Try.prog Try.f3 Rows.keyLeasesAreFewRow.domain false) (Rows.keyLeasesAreFewSpec.post enc Try.prog Try.f3 false true false false) := by
  refine returnsInHanded_of_change_sized (C := Try.checked) Try.own started (by kernel_rfl) Try.func3
    (ChangeSpec.witness6 (enc := enc) (C := Try.checked) false ⟨#[], #[.slice none 0 0, .slice none 0 0, .int .i64 0], []⟩ 8 (by kernel_rfl) (by kernel_rfl) (by kernel_rfl) (by kernel_rfl)) ?_
  intro W base args ds gs before hval0 hW _ _ _
  have hval : ∀ (j : Nat) t v, Try.f3.params[j]? = some t → args[j]? = some v → Value.okWide Try.prog W .any base t v := hval0
  have hW' := hW
  obtain ⟨p, q, hA0, hV, rfl, _, _⟩ := hW
  have hA : DataW.TrodAll enc Try.prog W 0 (fun _ => true) true Try.f3.params.toList args.toList ds p := hA0
  rw [Try.params3] at hA hval
  obtain ⟨v0, v1, v2, d0, d1, d2, p0, p1, p2, rfl, rfl, rfl, h0, h1, h2⟩ := trodAll_three hA
  obtain ⟨A0, n0, c0, l0, rfl, hAt0, hG0, _⟩ := open_seats (hval 0 22 v0 rfl rfl) h0
  obtain ⟨A1, n1, c1, l1, rfl, hAt1, hG1, _⟩ := open_asks (hval 1 23 v1 rfl rfl) h1
  obtain ⟨x2, rfl, rfl, rfl, w2⟩ := open_int Try.underlying3 (hval 2 3 v2 rfl rfl) h2
  refine (fewLaw_any hAt0 hG0 hAt1 hG1 (wf_i64 w2)).mono fun e W' ⟨he, hE⟩ => ?_
  subst he
  exact ⟨_, rfl, law_post Try.laidOut Try.underlying4 hW' rfl rfl rfl (by kernel_rfl) hE⟩
theorem keyLeasesAreFew_closed : joinedFacts Try.prog 3 Try.f3 Rows.keyLeasesAreFewSpec Rows.keyLeasesAreFewRow = true :=
  joined_of Try.laidOut Try.mapsRowed Try.plainKeys Try.stopsHeard Try.stopsNone Try.knobsNone Try.mayEnter Try.makeCut Try.liftsFinal rfl rfl rfl (by as_aux_lemma => kernel_rfl)
    (by as_aux_lemma => kernel_rfl) (by as_aux_lemma => kernel_rfl) (by as_aux_lemma => kernel_rfl) (by as_aux_lemma => kernel_rfl) (by as_aux_lemma => kernel_rfl) (by as_aux_lemma => kernel_rfl) (by as_aux_lemma => kernel_rfl) (by as_aux_lemma => kernel_rfl) (by as_aux_lemma => kernel_rfl) (by as_aux_lemma => kernel_rfl)
theorem keyLeasesAreFew_holds : Rows.KeyLeasesAreFewSaid :=
  OpenClaim.holds_of_wide 3 Try.f3 rfl rfl rfl rfl rfl rfl rfl ⟨rfl, rfl, rfl, rfl, rfl⟩ rfl rfl rfl rfl rfl (by as_aux_lemma => kernel_rfl) Try.func3 keyLeasesAreFew_closed
    (of_decide_eq_true (by kernel_rfl)) (by unfold Func.isWrapper; first | (rw [if_pos (by decide +kernel)]; kernel_rfl) | (rw [if_neg (by decide +kernel)]; exact ⟨rfl, rfl⟩))
    (fun os started H enc _ => keyLeasesAreFew_lifted os started H enc)
#print axioms keyLeasesAreFew_holds
end Go.Proofs.Ytfpmjaeehhegcaa
