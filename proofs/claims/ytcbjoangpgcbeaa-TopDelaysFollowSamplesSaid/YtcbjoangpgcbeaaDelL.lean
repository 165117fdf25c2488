/- Proved: for every parcel, number and rate TopDelaysFollowSamples returns true: a part of the samples, and samples that are moved, need no longer delay than all of them. Conditions: none. -/
import Derived.Test.YtcbjoangpgcbeaaDelA
import Derived.Test.YtcbjoangpgcbeaaOpenS
import Derived.Test.YtcbjoangpgcbeaaOpens2
import Derived.Test.YtcbjoangpgcbeaaLawG
import Derived.Lib.SmallJoins
namespace Go.Proofs.Ytcbjoangpgcbeaa
open Go.ChangeShapes Go.WideShapes Go.ChangeAt Go.RowKit Go.Joins Go.Deep
section
variable {H : Type} {enc : TypeId × Value → H} {W : World} {base : Nat}
set_option maxRecDepth 100000 in
theorem open_parcel {v : Value} {d : DataW H} {p : List MemPlace} (hv : Value.okWide Try.prog W .any base 24 v) (h : DataW.Trod enc Try.prog W 0 (fun _ => true) true 24 v d p) :
    ∃ num A n c l, v = .agg #[.int .i64 num, .slice A n c] ∧ At W 5 eSm A n c l := by
  obtain ⟨v0, v1, y0, y1, n, rfl, _, _, h0, h1⟩ := open_agg2 Try.underlying24 (by kernel_rfl) (by kernel_rfl) hv h
  obtain ⟨x0, rfl, _⟩ := fldInt Try.underlying3 h0
  obtain ⟨A, m, c, rfl⟩ := fldSlice Try.underlying22 h1
  obtain ⟨d, p⟩ := y1
  obtain ⟨l, h2, _, _⟩ := open_structsQ (sz := 5) Try.underlying22 Try.underlying43 (by kernel_rfl) (by kernel_rfl) rfl (by omega) (decSmp Try.underlying3 Try.underlying3 Try.underlying3 Try.underlying3 Try.underlying4) h1
  exact ⟨x0, A, m, c, l, rfl, h2⟩
end
set_option linter.unusedVariables false in
set_option maxRecDepth 100000 in
set_option maxHeartbeats 8000000 in
theorem delays_any {s k r : Int} {A : Option Addr} {n c : Nat} {l : List Smp} {w : World} (h : At w 5 eSm A n c l) (hk : -9223372036854775808 ≤ k ∧ k ≤ 9223372036854775807) :
    Calls Try.prog 3 #[.agg #[.int .i64 s, .slice A n c], .int .i64 k, .int .i64 r] w fun e w' => e = .returned (.bool true) ∧ Ext w w' := by
  have HAL := hide (fun (W : World) => alive_any W)
  have E0 := hide (Ext.alloc w (.cells #[.int .i64 s, .slice A n c] 24))
  have X0 := hide (Blk.new w 24 #[.int .i64 s, .slice A n c])
  have HD := hide (keyDelay_any (s := s) (r := r) (h.ext E0.out))
  have H := hide h
  have hl := h.len
  clear h
  by_cases hF : delF s r l = 0
  · obtain ⟨hz, hs, hr, hd⟩ := delF_zero hF
    have hdV : delV s r l = dlF s.toNat r.toNat l n := by unfold delV; rw [if_pos hF, hl]
    rw [hF, hdV] at HD
    rw [hl] at hd
    have hn5 : n ≤ 5000 := by have := (smpF_zero hz).1; omega
    have HT := hide (fun (W : World) => turn_any k n hk hn5 W)
    have HCU := hide (fun (W : World) (hW : Ext w W) (m : Nat) (hm : m ≤ n) => cut_any (H.out.ext hW) hz hm)
    have HLE := hide (fun (m : Nat) (hm : m ≤ n) => dlF_le s.toNat r.toNat l hm)
    have HD2 := hide (fun (W : World) (m : Nat) (hm : m ≤ n) (A' : Option Addr) (c' : Nat) (ha : At W 5 eSm A' m c' (l.take m)) => (by
      have h1 := keyDelay_any (s := s) (r := r) ha
      have hlm : (l.take m).length = m := by rw [List.length_take]; omega
      have h2 := delF_of (s := s) (r := r) (smpF_pre hz m (by omega)) hs hr (by rw [hlm, dlF_pre m (Nat.le_refl _)]; have := HLE.out m hm; omega)
      rw [h2.1, h2.2, hlm, dlF_pre m (Nat.le_refl _)] at h1
      exact h1 : Calls Try.prog 4 #[.agg #[.int .i64 s, .slice A' m c'], .int .i64 r] W fun e w' => e = .returned (.tuple #[.int .i64 (dlF s.toNat r.toNat l m), .int .i64 0]) ∧ Ext W w'))
    have HMV := hide (fun (W : World) (hW : Ext w W) => moved_any (H.out.ext hW) hz)
    have HD3 := hide (fun (W : World) (A' : Option Addr) (c' : Nat) (h0 : smpF (mvL l) = 0) (ha : At W 5 eSm A' n c' (mvL l)) => (by
      have h1 := keyDelay_any (s := s) (r := r) ha
      have h2 := delF_of (s := s) (r := r) h0 hs hr (by rw [mvL_len, hl, dlF_mv n (by omega)]; exact hd)
      rw [h2.1, h2.2, mvL_len, hl, dlF_mv n (by omega)] at h1
      exact h1 : Calls Try.prog 4 #[.agg #[.int .i64 s, .slice A' n c'], .int .i64 r] W fun e w' => e = .returned (.tuple #[.int .i64 (dlF s.toNat r.toNat l n), .int .i64 0]) ∧ Ext W w'))
    have hmv := smpF_mv hz
    have u1 : IntKind.i64.wrap ((n : Int) + 1) = (n : Int) + 1 := by rw [IntKind.wrap_i64]; omega
    generalize hD : dlF s.toNat r.toNat l n = D at *
    have HDD := hide hD
    clear hD hF hz hs hr hd hdV hl hn5 hk
    go_enter Try.func3, Try.ntmps3
    go_wp2_with fail
    with_reducible refine HD.out.mono ?_
    rintro e w1 ⟨rfl, e1⟩
    have X1 := hide (X0.out.ext e1)
    have E1 := hide (Ext.trans E0.out e1)
    have x0 : w1.cell? ⟨w.heap.size, 0, none⟩ = some (.int .i64 s) := X1.out.cell 0
    have x1 : w1.cell? ⟨w.heap.size, 1, none⟩ = some (.slice A n c) := X1.out.cell 1
    clear e1 E0 X0 HD
    go_wp2_with fail
    with_reducible refine (HT.out _).mono ?_
    rintro e w' ⟨⟨m, hm, rfl⟩, rfl⟩
    have HCM := hide (HCU.out _ E1.out m hm)
    have HDM := hide (fun (W : World) => HD2.out W m hm)
    have hle := HLE.out m hm
    have HMN := hide hm
    clear HCU HD2 HLE HT hm
    generalize dlF s.toNat r.toNat l m = Dm at *
    have d1 : ¬ D < Dm := by omega
    go_wp2_with fail
    with_reducible refine HCM.out.mono ?_
    rintro e w2 ⟨A2, c2, rfl, a2, e2⟩
    have X2 := hide (X1.out.ext e2)
    have E2 := hide (Ext.trans E1.out e2)
    have x0 : w2.cell? ⟨w.heap.size, 0, none⟩ = some (.int .i64 s) := X2.out.cell 0
    have x1 : w2.cell? ⟨w.heap.size, 1, none⟩ = some (.slice A n c) := X2.out.cell 1
    have HDC := hide (HDM.out _ _ _ a2)
    clear a2 e2 E1 X1 HCM HDM
    go_wp2_with fail
    with_reducible refine HDC.out.mono ?_
    rintro e w3 ⟨rfl, e3⟩
    have X3 := hide (X2.out.ext e3)
    have E3 := hide (Ext.trans E2.out e3)
    clear e3 E2 X2 HDC
    go_wp2_with fail
    with_reducible refine (HAL.out _).mono ?_
    rintro e w4 ⟨rfl, e4⟩
    have X4 := hide (X3.out.ext e4)
    have E4 := hide (Ext.trans E3.out e4)
    have x0 : w4.cell? ⟨w.heap.size, 0, none⟩ = some (.int .i64 s) := X4.out.cell 0
    have x1 : w4.cell? ⟨w.heap.size, 1, none⟩ = some (.slice A n c) := X4.out.cell 1
    clear e4 E3 X3
    go_wp2_with fail
    with_reducible refine (HMV.out _ E4.out).mono ?_
    rintro e w5 ⟨⟨A5, n5, c5, he, h5⟩, e5⟩
    have X5 := hide (X4.out.ext e5)
    have E5 := hide (Ext.trans E4.out e5)
    have x0 : w5.cell? ⟨w.heap.size, 0, none⟩ = some (.int .i64 s) := X5.out.cell 0
    have x1 : w5.cell? ⟨w.heap.size, 1, none⟩ = some (.slice A n c) := X5.out.cell 1
    clear e5 E4 X4 HMV
    rcases hmv with h0 | h0
    · obtain ⟨rfl, a5⟩ := h5 h0
      rw [h0] at he
      subst he
      have HDN := hide (HD3.out _ _ _ h0 a5)
      clear HD3 h5 h0 a5
      go_wp2_with fail
      with_reducible refine HDN.out.mono ?_
      rintro e w6 ⟨rfl, e6⟩
      have E6 := hide (Ext.trans E5.out e6)
      clear e6
      go_wp2_with fail
      go_ret
      exact ⟨ret_bool (by simp), E6.out⟩
    · rw [h0] at he
      subst he
      clear h5 h0 HD3
      go_wp2_with fail
      go_ret
      exact ⟨rfl, E5.out⟩
  · have hv : delV s r l = 0 := by unfold delV; rw [if_neg hF]
    rw [hv] at HD
    generalize delF s r l = f at *
    have d0 : (f != 0) = true := by simp [hF]
    clear hF hv hl hk
    go_enter Try.func3, Try.ntmps3
    go_wp2_with fail
    with_reducible refine HD.out.mono ?_
    rintro e w1 ⟨rfl, e1⟩
    have E1 := hide (Ext.trans E0.out e1)
    clear e1
    go_wp2_with fail
    with_reducible refine (HAL.out _).mono ?_
    rintro e w2 ⟨rfl, e2⟩
    go_wp2_with fail
    go_ret
    exact ⟨rfl, Ext.trans E1.out e2⟩
set_option maxRecDepth 100000 in
theorem topDelaysFollowSamples_lifted (os : Os) (started : os.Started) (H : Type) (enc : TypeId × Value → H) :
    ReturnsInHanded {} Try.checked os 3 .any (Rows.topDelaysFollowSamplesSpec.pre6 enc Try.prog Try.f3 Rows.topDelaysFollowSamplesRow.domain false) (Rows.topDelaysFollowSamplesSpec.post enc Try.prog Try.f3 false true false false) := by
  refine returnsInHanded_of_change_sized (C := Try.checked) Try.own started (by kernel_rfl) Try.func3
    (ChangeSpec.witness6 (enc := enc) (C := Try.checked) false ⟨#[], #[.agg #[.int .i64 0, .slice none 0 0], .int .i64 0, .int .i64 0], []⟩ 8 (by kernel_rfl) (by kernel_rfl) (by kernel_rfl) (by kernel_rfl)) ?_
  intro W base args ds gs before hval0 hW _ _ _
  have hval : ∀ (j : Nat) t v, Try.f3.params[j]? = some t → args[j]? = some v → Value.okWide Try.prog W .any base t v := hval0
  have hW' := hW
  obtain ⟨p, q, hA0, hV, rfl, _, _⟩ := hW
  have hA : DataW.TrodAll enc Try.prog W 0 (fun _ => true) true Try.f3.params.toList args.toList ds p := hA0
  rw [Try.params3] at hA hval
  obtain ⟨v0, v1, v2, d0, d1, d2, p0, p1, p2, rfl, rfl, rfl, h0, h1, h2⟩ := trodAll_three hA
  obtain ⟨num0, A0, n0, c0, l0, rfl, hAt0⟩ := open_parcel (hval 0 24 v0 rfl rfl) h0
  obtain ⟨x1, rfl, rfl, rfl, w1⟩ := open_int Try.underlying3 (hval 1 3 v1 rfl rfl) h1
  obtain ⟨x2, rfl, rfl, rfl, _⟩ := open_int Try.underlying3 (hval 2 3 v2 rfl rfl) h2
  refine (delays_any hAt0 (wf_i64 w1)).mono fun e W' ⟨he, hE⟩ => ?_
  subst he
  exact ⟨_, rfl, law_post Try.laidOut Try.underlying4 hW' rfl rfl rfl (by kernel_rfl) hE⟩
theorem topDelaysFollowSamples_closed : joinedFacts Try.prog 3 Try.f3 Rows.topDelaysFollowSamplesSpec Rows.topDelaysFollowSamplesRow = true :=
  joined_of Try.laidOut Try.mapsRowed Try.plainKeys Try.stopsHeard Try.stopsNone Try.knobsNone Try.mayEnter Try.makeCut Try.liftsFinal rfl rfl rfl (by as_aux_lemma => kernel_rfl)
    (by as_aux_lemma => kernel_rfl) (by as_aux_lemma => kernel_rfl) (by as_aux_lemma => kernel_rfl) (by as_aux_lemma => kernel_rfl) (by as_aux_lemma => kernel_rfl) (by as_aux_lemma => kernel_rfl) (by as_aux_lemma => kernel_rfl) (by as_aux_lemma => kernel_rfl) (by as_aux_lemma => kernel_rfl) (by as_aux_lemma => kernel_rfl)
theorem topDelaysFollowSamples_holds : Rows.TopDelaysFollowSamplesSaid :=
  OpenClaim.holds_of_wide 3 Try.f3 rfl rfl rfl rfl rfl rfl rfl ⟨rfl, rfl, rfl, rfl, rfl⟩ rfl rfl rfl rfl rfl (by as_aux_lemma => kernel_rfl) Try.func3 topDelaysFollowSamples_closed
    (of_decide_eq_true (by kernel_rfl)) (by unfold Func.isWrapper; first | (rw [if_pos (by decide +kernel)]; kernel_rfl) | (rw [if_neg (by decide +kernel)]; exact ⟨rfl, rfl⟩))
    (fun os started H enc _ => topDelaysFollowSamples_lifted os started H enc)
#print axioms topDelaysFollowSamples_holds
end Go.Proofs.Ytcbjoangpgcbeaa
