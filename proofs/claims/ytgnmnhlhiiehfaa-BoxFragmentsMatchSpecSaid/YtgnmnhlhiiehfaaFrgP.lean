/- The fragments of samples: plain. -/
import Derived.Test.YtgnmnhlhiiehfaaFrgB
namespace Go.Proofs.Ytgnmnhlhiiehfaa
open Go.RowKit
theorem frL_get {n : Nat} {l : List Smp} {j i : Nat} (h : i < j) : (frL n l j).getD i (0, []) = (((i + 1 : Nat) : Int), (l.drop (i * n)).take n) := by
  unfold frL
  rw [List.getD_eq_getElem?_getD, List.getElem?_map, List.getElem?_range h]; rfl
theorem frL_flat {n : Nat} {l : List Smp} (j : Nat) : flS (frL n l j) = l.take (j * n) := by
  induction j with
  | zero => simp [frL, flS]
  | succ j ih =>
    have h : flS (frL n l (j + 1)) = flS (frL n l j) ++ (l.drop (j * n)).take n := by rw [frL_succ]; simp [flS]
    rw [h, ih, Nat.add_mul, Nat.one_mul, List.take_add]
theorem getD_part {l : List Smp} {a b i : Nat} (hi : i < ((l.drop a).take b).length) : ((l.drop a).take b).getD i dS = l.getD (a + i) dS := by
  have h2 := hi
  rw [List.length_take, List.length_drop] at h2
  rw [List.getD_eq_getElem?_getD, List.getD_eq_getElem?_getD, List.getElem?_take_of_lt (by omega), List.getElem?_drop]
theorem smpF_part {l : List Smp} (h : smpF l = 0) (a b : Nat) : smpF ((l.drop a).take b) = 0 := by
  obtain ⟨h1, h2, h3⟩ := smpF_zero h
  have hlen : ((l.drop a).take b).length ≤ l.length - a := by rw [List.length_take, List.length_drop]; omega
  refine smpF_of (by omega) (fun i hi => ?_) (fun h0 => ?_)
  · have hz := smpEl_zero (h2 (a + i) (by omega))
    unfold smpEl
    rw [getD_part hi, hz.1, if_neg (by simp), if_neg]
    rintro ⟨h4, h5⟩
    rw [getD_part (by omega)] at h5
    have := hz.2 (by omega)
    rw [show a + i - 1 = a + (i - 1) by omega] at this
    exact h5 this
  · have he : endS ((l.drop a).take b) = (l.getD (a + (((l.drop a).take b).length - 1)) dS).time + (l.getD (a + (((l.drop a).take b).length - 1)) dS).step := by
      unfold endS; rw [getD_part (by omega)]
    rw [he]
    generalize hp : a + (((l.drop a).take b).length - 1) = p
    have hpl : p < l.length := by omega
    by_cases hq : p + 1 < l.length
    · have hz := smpEl_zero (h2 (p + 1) hq)
      have := hz.2 (by omega)
      rw [Nat.add_sub_cancel] at this
      rw [← this]
      have hb := hz.1
      unfold badS at hb
      simp only [Bool.or_eq_false_iff] at hb
      exact hb.1.1.1
    · have := h3 (by omega)
      unfold endS at this
      rw [show l.length - 1 = p by omega] at this
      exact this
/-- What Fragments gives of whatever it takes. -/
def frgF (n : Int) (l : List Smp) : Int := if smpF l ≠ 0 then smpF l else if n < 1 ∨ 5000 < n then 1 else 0
set_option linter.unusedVariables false in
set_option maxRecDepth 100000 in
set_option maxHeartbeats 4000000 in
theorem keyFragments_no {A : Option Addr} {m c : Nat} {n : Int} {l : List Smp} {w : World} (h : At w 5 eSm A m c l) (hF : frgF n l ≠ 0) :
    Calls Try.prog 13 #[.slice A m c, .int .i64 n] w fun e w' => e = .returned (.tuple #[.slice none 0 0, .int .i64 (frgF n l)]) ∧ Ext w w' := by
  have HC := hide (keySamples_any h)
  clear h
  by_cases h0 : smpF l = 0
  · have hr : n < 1 ∨ 5000 < n := by
      unfold frgF at hF; rw [if_neg (by omega)] at hF
      by_cases hr : n < 1 ∨ 5000 < n
      · exact hr
      · rw [if_neg hr] at hF; exact absurd rfl hF
    have HQ : Hid (frgF n l = 1) := hide (by unfold frgF; rw [if_neg (by omega), if_pos hr])
    have hc := HC.out
    rw [h0] at hc
    have HC := hide hc
    clear hc h0 hF
    go_enter Try.func13, Try.ntmps13
    go_wp2_with fail
    with_reducible refine HC.out.mono ?_
    rintro e w1 ⟨rfl, e1⟩
    have E1 := hide e1
    clear e1
    rcases hr with hr | hr
    · go_wp2_with (first | ((go_at_call 31; with_reducible refine (out_yes (by omega) _).mono ?_); rintro e w' ⟨rfl, rfl⟩))
      refine bodyPost_ret (v := .tuple #[.slice none 0 0, .int .i64 1]) (by simp [results, Try.results13, go_sem]) rfl (by rw [HQ.out]; exact ⟨rfl, E1.out⟩)
    · go_wp2_with (first | ((go_at_call 31; with_reducible refine (out_yes (by omega) _).mono ?_); rintro e w' ⟨rfl, rfl⟩))
      refine bodyPost_ret (v := .tuple #[.slice none 0 0, .int .i64 1]) (by simp [results, Try.results13, go_sem]) rfl (by rw [HQ.out]; exact ⟨rfl, E1.out⟩)
  · have HQ : Hid (frgF n l = smpF l) := hide (by unfold frgF; rw [if_pos h0])
    generalize smpF l = fl at *
    have d0 : (fl != 0) = true := by simp [h0]
    clear h0 hF
    go_enter Try.func13, Try.ntmps13
    go_wp2_with fail
    with_reducible refine HC.out.mono ?_
    rintro e w1 ⟨rfl, e1⟩
    have E1 := hide e1
    clear e1
    go_wp2_with fail
    refine bodyPost_ret (v := .tuple #[.slice none 0 0, .int .i64 fl]) (by simp [results, Try.results13, go_sem]) rfl (by rw [HQ.out]; exact ⟨rfl, E1.out⟩)
end Go.Proofs.Ytgnmnhlhiiehfaa
