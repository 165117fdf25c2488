/- Proved: for every rotation, span and pick KeyNeededAreEnough returns true: the key of each time of the span and of Lead after it, from Begin on, is needed, and no other one; the arguments read as they did. Conditions: none. -/
import Derived.Test.YtifmgngmkajahaaRotB
import Derived.Test.YtifmgngmkajahaaInts
import Derived.Test.YtifmgngmkajahaaAwake
import Derived.Test.YtifmgngmkajahaaOpen
namespace Go.Proofs.Ytifmgngmkajahaa
open Go.ChangeShapes Go.WideShapes Go.ChangeAt Go.RowKit

theorem mem_spanL {f : Int} {k : Nat} {x : Int} : x ∈ spanL f k ↔ f ≤ x ∧ x < f + (k : Int) := by
  simp only [spanL, List.mem_map, List.mem_range]
  constructor
  · rintro ⟨j, hj, rfl⟩; omega
  · rintro ⟨h1, h2⟩
    exact ⟨(x - f).toNat, by omega, by omega⟩
theorem needF_zero {B E L F T : Int} {n : Nat} (h : needF B E L n F T = 0) : rotF B E L n = 0 ∧ (0 ≤ F ∧ F ≤ 1000000000000000) ∧ (0 ≤ T ∧ T ≤ 1000000000000000) ∧ F < T := by
  unfold needF at h
  split at h
  · rename_i hr; exact absurd h hr
  · split at h
    · omega
    · split at h
      · omega
      · rename_i h1 h2 h3
        exact ⟨by omega, by omega, by omega, by omega⟩
theorem needL_none {B E L F T : Int} {n : Nat} (h : needF B E L n F T ≠ 0) : needL B E L n F T = [] := by
  unfold needL; rw [if_pos (.inl h)]
/-- The period of a time of the span is needed. -/
theorem need_has {B E L F T t : Int} {n : Nat} (h : needF B E L n F T = 0) (h1 : F ≤ t) (h2 : t < T + L) (h3 : B ≤ t) : (t - B) / E ∈ needL B E L n F T := by
  obtain ⟨hr, hF, hT, ho⟩ := needF_zero h
  obtain ⟨hB, hE, hL, hn⟩ := rotF_zero hr
  unfold needL
  rw [if_neg (by omega), mem_spanL]
  have a1 : firstP B E F ≤ (t - B) / E := by
    unfold firstP
    apply Int.ediv_le_ediv (by omega)
    split <;> omega
  have a2 : (t - B) / E ≤ lastP B E L T := by
    unfold lastP
    exact Int.ediv_le_ediv (by omega) (by omega)
  omega
/-- What is needed has a time of the span. -/
theorem need_only {B E L F T y : Int} {n : Nat} (h : needF B E L n F T = 0) (hy : y ∈ needL B E L n F T) : 0 ≤ y * E ∧ y * E ≤ 2000000000000000 ∧ B + y * E < T + L ∧ F < B + y * E + E := by
  obtain ⟨hr, hF, hT, ho⟩ := needF_zero h
  obtain ⟨hB, hE, hL, hn⟩ := rotF_zero hr
  unfold needL at hy
  split at hy
  · simp at hy
  · rename_i hc
    rw [mem_spanL] at hy
    have hfl := first_le (B := B) (E := E) (L := L) (F := F) (T := T) (by omega) (by omega) (by omega) (by omega)
    have hf0 := firstP_bd (B := B) (E := E) (F := F) (by omega) (by omega) (by omega)
    have y1 : y ≤ lastP B E L T := by omega
    have y0 : firstP B E F ≤ y := by omega
    have b1 : y * E ≤ lastP B E L T * E := Int.mul_le_mul_of_nonneg_right y1 (by omega)
    have b2 : lastP B E L T * E ≤ T + L - 1 - B := Int.ediv_mul_le _ (by omega)
    have b3 : 0 ≤ y * E := Int.mul_nonneg (by omega) (by omega)
    have b4 : (firstP B E F + 1) * E ≤ (y + 1) * E := Int.mul_le_mul_of_nonneg_right (by omega) (by omega)
    have b5 : (if F ≤ B then 0 else F - B) < (firstP B E F + 1) * E := Int.lt_ediv_add_one_mul_self _ (by omega)
    have b6 : (y + 1) * E = y * E + E := by rw [Int.add_mul, Int.one_mul]
    refine ⟨b3, by omega, by omega, ?_⟩
    split at b5 <;> omega

def NeedOk (w : World) (e : Ending) (w' : World) : Prop := e = .returned (.bool true) ∧ Ext w w'

set_option maxRecDepth 100000 in
set_option maxHeartbeats 1000000 in
theorem needEnough_bad {B E L : Int} {A : Option Addr} {n c : Nat} {F T x : Int} {w : World} (h : needF B E L n F T ≠ 0) :
    Calls Try.prog 6 #[rotV B E L A n c, spanV F T, .int .i64 x] w fun e w' => e = .returned (.bool true) ∧ Ext w w' := by
  have hl := needL_none h
  have hc := fun W : World => keyNeeded_any B E L A n c F T W
  rw [hl] at hc
  have hb : (needF B E L n F T != 0) = true := by rw [bne_iff_ne]; exact h
  generalize needF B E L n F T = r at *
  have HC := hide hc
  clear h hl hc
  go_enter Try.func6, Try.ntmps6
  go_wp2_with fail
  refine (HC.out _).mono ?_
  rintro e w1 ⟨A1, k1, c1, rfl, a1, e1⟩
  obtain rfl : k1 = 0 := a1.len.symm
  have E1 := hide e1
  clear a1 e1
  go_wp2_with fail
  refine (awake_any _).mono ?_
  rintro e w2 ⟨rfl, e2⟩
  have E2 := hide e2
  clear e2
  go_wp2
  go_ret
  exact ⟨rfl, Ext.trans (Ext.trans (ext_alloc (Ext.alloc _ _) _) E1.out) E2.out⟩

set_option maxRecDepth 100000 in
set_option maxHeartbeats 4000000 in
theorem needEnough_ok {B E L : Int} {A : Option Addr} {n c : Nat} {F T x : Int} {w : World} (h : needF B E L n F T = 0) (hx : -9223372036854775808 ≤ x ∧ x ≤ 9223372036854775807) :
    Calls Try.prog 6 #[rotV B E L A n c, spanV F T, .int .i64 x] w fun e w' => e = .returned (.bool true) ∧ Ext w w' := by
  obtain ⟨hr, hF, hT, ho⟩ := needF_zero h
  obtain ⟨hB, hE, hL, hn⟩ := rotF_zero hr
  have hc := fun W : World => keyNeeded_any B E L A n c F T W
  rw [h] at hc
  have HC := hide hc
  have hbw := fun W : World => below_any x (T - F + L) (by omega) (by omega) hx W
  have HB := hide hbw
  have m0 : 0 ≤ x % (T - F + L) := Int.emod_nonneg _ (by omega)
  have m1 : x % (T - F + L) < T - F + L := Int.emod_lt_of_pos _ (by omega)
  obtain ⟨m, hm⟩ : ∃ m, m = x % (T - F + L) := ⟨_, rfl⟩
  rw [← hm] at m0 m1
  rw [← hm] at HB
  have hp := fun W : World => keyPeriodAt_any B E L A n c (F + m) W
  have hov := fun y => need_only (y := y) h
  have hHas := need_has (t := F + m) h (by omega) (by omega)
  have HO := hide hov
  have HH := hide hHas
  have HP := hide hp
  have HR := hide hr
  have HNF := hide h
  clear hc hbw hp hov hHas hr hm h hx
  go_enter Try.func6, Try.ntmps6
  go_wp2_with fail
  refine (HC.out _).mono ?_
  rintro e w1 ⟨A1, k1, c1, rfl, a1, e1⟩
  have hb1 := a1.bound
  have c0 := e1.cell (((Blk.new w 31 #[.int .i64 B, .int .i64 E, .int .i64 L, .slice A n c]).alloc (.cells #[.int .i64 F, .int .i64 T] 33)).cell 0)
  have c1' := e1.cell (((Blk.new w 31 #[.int .i64 B, .int .i64 E, .int .i64 L, .slice A n c]).alloc (.cells #[.int .i64 F, .int .i64 T] 33)).cell 1)
  have c2 := e1.cell (((Blk.new w 31 #[.int .i64 B, .int .i64 E, .int .i64 L, .slice A n c]).alloc (.cells #[.int .i64 F, .int .i64 T] 33)).cell 2)
  have c3 := e1.cell (((Blk.new w 31 #[.int .i64 B, .int .i64 E, .int .i64 L, .slice A n c]).alloc (.cells #[.int .i64 F, .int .i64 T] 33)).cell 3)
  have s0 := e1.cell ((Blk.new (w.alloc (.cells #[.int .i64 B, .int .i64 E, .int .i64 L, .slice A n c] 31)) 33 #[.int .i64 F, .int .i64 T]).cell 0)
  have s1 := e1.cell ((Blk.new (w.alloc (.cells #[.int .i64 B, .int .i64 E, .int .i64 L, .slice A n c] 31)) 33 #[.int .i64 F, .int .i64 T]).cell 1)
  rw [World.size_alloc] at s0 s1
  have E1 := hide (Ext.trans (ext_alloc (Ext.alloc w (.cells #[.int .i64 B, .int .i64 E, .int .i64 L, .slice A n c] 31)) (.cells #[.int .i64 F, .int .i64 T] 33)) e1)
  have HA := hide a1
  clear a1 e1
  go_wp2_with fail
  go_quiet ((go_at_call 29; with_reducible exact quiet_left (HB.out _)))
  go_wp2_with fail
  by_cases hA : 1000000000000000 < F + m
  · have hpf : perF B E L n (F + m) = 1 := by unfold perF; rw [if_neg (by rw [HR.out]; decide), if_pos (.inr hA)]
    have hpv : perV B E L n (F + m) = 0 := by unfold perV; rw [if_pos (.inr (.inr (.inl hA)))]
    have hq := HP.out (w1.drewN nq)
    rw [hpf, hpv] at hq
    have HQ := hide hq
    clear hpf hpv hq
    refine HQ.out.mono ?_
    rintro e w2 ⟨rfl, e2⟩
    have E2 := hide (Ext.trans E1.out (Ext.trans (Ext.drewN _ _) e2))
    clear e2
    go_wp2_with fail
    refine (awake_any _).mono ?_
    rintro e w3 ⟨rfl, e3⟩
    have E3 := hide (Ext.trans E2.out e3)
    clear e3
    go_wp2
    go_ret
    exact ⟨rfl, E3.out⟩
  have hA' : F + m ≤ 1000000000000000 := by omega
  by_cases hC : F + m < B
  · have hpf : perF B E L n (F + m) = 9 := by unfold perF; rw [if_neg (by rw [HR.out]; decide), if_neg (by omega), if_pos hC]
    have hpv : perV B E L n (F + m) = 0 := by unfold perV; rw [if_pos (.inr (.inr (.inr hC)))]
    have hq := HP.out (w1.drewN nq)
    rw [hpf, hpv] at hq
    have HQ := hide hq
    clear hpf hpv hq
    refine HQ.out.mono ?_
    rintro e w2 ⟨rfl, e2⟩
    have E2 := hide (Ext.trans E1.out (Ext.trans (Ext.drewN _ _) e2))
    clear e2
    go_wp2_with fail
    refine (awake_any _).mono ?_
    rintro e w3 ⟨rfl, e3⟩
    have E3 := hide (Ext.trans E2.out e3)
    clear e3
    go_wp2
    go_ret
    exact ⟨rfl, E3.out⟩
  have hpf : perF B E L n (F + m) = 0 := by unfold perF; rw [if_neg (by rw [HR.out]; decide), if_neg (by omega), if_neg hC]
  have hpv : perV B E L n (F + m) = (F + m - B) / E := by unfold perV; rw [if_neg (by rw [HR.out]; omega)]
  have hq := HP.out (w1.drewN nq)
  rw [hpf, hpv] at hq
  have hin := HH.out (by omega)
  generalize (F + m - B) / E = v at *
  have HQ := hide hq
  have HI := hide hin
  clear hpf hpv hq hin hA HH
  refine HQ.out.mono ?_
  rintro e w2 ⟨rfl, e2⟩
  have z2 := e2.size
  have d0 := (Ext.cell (Ext.trans (Ext.drewN _ _) e2) c0)
  have d1 := (Ext.cell (Ext.trans (Ext.drewN _ _) e2) c1')
  have d2 := (Ext.cell (Ext.trans (Ext.drewN _ _) e2) c2)
  have d3 := (Ext.cell (Ext.trans (Ext.drewN _ _) e2) s0)
  have d4 := (Ext.cell (Ext.trans (Ext.drewN _ _) e2) s1)
  have E2 := hide (Ext.trans E1.out (Ext.trans (Ext.drewN _ _) e2))
  have HA2 := hide (HA.out.ext (Ext.trans (Ext.drewN _ _) e2))
  clear e2 c0 c1' c2 c3 s0 s1 HA HQ
  go_wp2_with fail
  refine (contains_any HA2.out v).mono ?_
  rintro e w3 ⟨rfl, rfl⟩
  rw [decide_eq_true HI.out]
  go_wp2_with fail
  go_loop [64] (fun ri => ∃ k : Nat, k ≤ k1 ∧ ri = .int .i64 k) (fun i => k1 - (intOf i).toNat)
  case atStart => exact ⟨0, by omega, rfl⟩
  case round =>
    obtain ⟨k, hk, rfl⟩ := hrel
    by_cases hlt : k < k1
    · obtain ⟨b, off, rfl, _⟩ := HA2.out.addr (by omega)
      have a1 := HA2.out.num hlt
      have hmem : (needL B E L n F T).getD k 0 ∈ needL B E L n F T := by
        have := HA2.out.len
        simp [List.getD, show k < (needL B E L n F T).length by omega]
      obtain ⟨y0, y1, y2, y3⟩ := HO.out _ hmem
      generalize (needL B E L n F T).getD k 0 = y at *
      have y2' : ¬ (T + L ≤ B + y * E) := by omega
      have y3' : ¬ (B + y * E + E ≤ F) := by omega
      clear hmem
      go_wp2
      go_round
      case rel => exact ⟨k + 1, by omega, by go_num⟩
      case measure => simp [intOf]; omega
    · have hkk : k = k1 := by omega
      clear hkk
      go_wp2_with fail
      refine (awake_any _).mono ?_
      rintro e w4 ⟨rfl, e4⟩
      have E4 := hide (Ext.trans E2.out e4)
      clear e4
      go_wp2
      go_ret
      exact ⟨rfl, E4.out⟩

theorem needEnough_any {B E L : Int} {A : Option Addr} {n c : Nat} {F T x : Int} {w : World} (hx : -9223372036854775808 ≤ x ∧ x ≤ 9223372036854775807) :
    Calls Try.prog 6 #[rotV B E L A n c, spanV F T, .int .i64 x] w fun e w' => e = .returned (.bool true) ∧ Ext w w' := by
  by_cases h : needF B E L n F T = 0
  · exact needEnough_ok h hx
  · exact needEnough_bad h

set_option maxRecDepth 100000 in
theorem keyNeededAreEnough_lifted (os : Os) (started : os.Started) (H : Type) (enc : TypeId × Value → H) :
    ReturnsInHanded {} Try.checked os 6 .any (Rows.keyNeededAreEnoughSpec.pre6 enc Try.prog Try.f6 Rows.keyNeededAreEnoughRow.domain false) (Rows.keyNeededAreEnoughSpec.post enc Try.prog Try.f6 false true false false) := by
  refine returnsInHanded_of_change_sized (C := Try.checked) Try.own started (by kernel_rfl) Try.func6
    (ChangeSpec.witness6 (enc := enc) (C := Try.checked) false ⟨#[], #[.agg #[.int .i64 0, .int .i64 1, .int .i64 0, .slice none 0 0], .agg #[.int .i64 0, .int .i64 1], .int .i64 0], []⟩ 8 (by kernel_rfl) (by kernel_rfl) (by kernel_rfl) (by kernel_rfl)) ?_
  intro W base args ds gs before hval0 hW _ _ _
  have hval : ∀ (j : Nat) t v, Try.f6.params[j]? = some t → args[j]? = some v → Value.okWide Try.prog W .any base t v := hval0
  have hW' := hW
  obtain ⟨p, q, hA0, hV, rfl, _, _⟩ := hW
  have hA : DataW.TrodAll enc Try.prog W 0 (fun _ => true) true Try.f6.params.toList args.toList ds p := hA0
  rw [Try.params6] at hA hval
  obtain ⟨v0, v1, v2, d0, d1, d2, p0, p1, p2, rfl, rfl, rfl, h0, h1, h2⟩ := trodAll_three hA
  obtain ⟨B0, E0, L0, A0, n0, c0, l0, rfl, hB0, hE0, hL0, hAt0⟩ := open_rot (hval 0 31 v0 rfl rfl) h0
  obtain ⟨F1, T1, rfl, hF1, hT1⟩ := open_span (hval 1 33 v1 rfl rfl) h1
  obtain ⟨x2, rfl, rfl, rfl, w2⟩ := open_int Try.underlying3 (hval 2 3 v2 rfl rfl) h2
  refine (needEnough_any (wf_i64 w2)).mono fun e W' ⟨he, hE⟩ => ?_
  subst he
  exact ⟨_, rfl, law_post Try.laidOut Try.underlying4 hW' rfl rfl rfl (by kernel_rfl) hE⟩
theorem keyNeededAreEnough_closed : joinedFacts Try.prog 6 Try.f6 Rows.keyNeededAreEnoughSpec Rows.keyNeededAreEnoughRow = true :=
  joined_of Try.laidOut Try.mapsRowed Try.plainKeys Try.stopsHeard Try.stopsNone Try.knobsNone Try.mayEnter Try.makeCut Try.liftsFinal rfl rfl rfl (by as_aux_lemma => kernel_rfl)
    (by as_aux_lemma => kernel_rfl) (by as_aux_lemma => kernel_rfl) (by as_aux_lemma => kernel_rfl) (by as_aux_lemma => kernel_rfl) (by as_aux_lemma => kernel_rfl) (by as_aux_lemma => kernel_rfl) (by as_aux_lemma => kernel_rfl) (by as_aux_lemma => kernel_rfl) (by as_aux_lemma => kernel_rfl) (by as_aux_lemma => kernel_rfl)
theorem keyNeededAreEnough_holds : Rows.KeyNeededAreEnoughSaid :=
  OpenClaim.holds_of_wide 6 Try.f6 rfl rfl rfl rfl rfl rfl rfl ⟨rfl, rfl, rfl, rfl, rfl⟩ rfl rfl rfl rfl rfl (by as_aux_lemma => kernel_rfl) Try.func6 keyNeededAreEnough_closed
    (of_decide_eq_true (by kernel_rfl)) (by unfold Func.isWrapper; first | (rw [if_pos (by decide +kernel)]; kernel_rfl) | (rw [if_neg (by decide +kernel)]; exact ⟨rfl, rfl⟩))
    (fun os started H enc _ => keyNeededAreEnough_lifted os started H enc)
#print axioms keyNeededAreEnough_holds
end Go.Proofs.Ytifmgngmkajahaa
