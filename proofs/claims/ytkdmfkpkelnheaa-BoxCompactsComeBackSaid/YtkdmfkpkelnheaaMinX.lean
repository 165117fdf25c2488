/- Walks: slices.Clone, slices.Min and slices.Max of ints. Conditions as stated. -/
import Derived.Test.YtkdmfkpkelnheaaTbyA
import Derived.Test.YtkdmfkpkelnheaaLstA
namespace Go.Proofs.Ytkdmfkpkelnheaa
open Go.RowKit
def NilIff (A B : Option Addr) : Prop := A = none ↔ B = none
def minK (l : List Int) : Nat → Int
  | 0 => l.getD 0 0
  | k + 1 => min (minK l k) (l.getD (k + 1) 0)
def maxK (l : List Int) : Nat → Int
  | 0 => l.getD 0 0
  | k + 1 => max (maxK l k) (l.getD (k + 1) 0)
theorem minK_le (l : List Int) : ∀ k i, i ≤ k → minK l k ≤ l.getD i 0
  | 0, i, h => by obtain rfl : i = 0 := by omega
                  exact Int.le_refl _
  | k + 1, i, h => by
    show min (minK l k) (l.getD (k + 1) 0) ≤ _
    rcases Nat.lt_or_ge k i with h1 | h1
    · obtain rfl : i = k + 1 := by omega
      exact Int.min_le_right _ _
    · exact Int.le_trans (Int.min_le_left _ _) (minK_le l k i h1)
theorem maxK_ge (l : List Int) : ∀ k i, i ≤ k → l.getD i 0 ≤ maxK l k
  | 0, i, h => by obtain rfl : i = 0 := by omega
                  exact Int.le_refl _
  | k + 1, i, h => by
    show _ ≤ max (maxK l k) (l.getD (k + 1) 0)
    rcases Nat.lt_or_ge k i with h1 | h1
    · obtain rfl : i = k + 1 := by omega
      exact Int.le_max_right _ _
    · exact Int.le_trans (maxK_ge l k i h1) (Int.le_max_left _ _)
/-- The least is the greatest exactly where all are the first. -/
theorem minmax_iff (l : List Int) (k : Nat) : minK l k = maxK l k ↔ ∀ i, i ≤ k → l.getD i 0 = l.getD 0 0 := by
  constructor
  · intro h i hi
    have a1 := minK_le l k i hi
    have a2 := maxK_ge l k i hi
    have a3 := minK_le l k 0 (Nat.zero_le _)
    have a4 := maxK_ge l k 0 (Nat.zero_le _)
    omega
  · intro h
    have key : ∀ j, j ≤ k → minK l j = l.getD 0 0 ∧ maxK l j = l.getD 0 0 := by
      intro j
      induction j with
      | zero => intro _; exact ⟨rfl, rfl⟩
      | succ j ih =>
        intro hj
        obtain ⟨b1, b2⟩ := ih (by omega)
        have b3 := h (j + 1) hj
        refine ⟨?_, ?_⟩
        · show min (minK l j) (l.getD (j + 1) 0) = _
          rw [b1, b3]; omega
        · show max (maxK l j) (l.getD (j + 1) 0) = _
          rw [b2, b3]; omega
    rw [(key k (Nat.le_refl _)).1, (key k (Nat.le_refl _)).2]
set_option linter.unusedVariables false in
set_option maxRecDepth 100000 in
set_option maxHeartbeats 4000000 in
theorem minI_any {A : Option Addr} {n c : Nat} {l : List Int} {w : World} (h : At w 1 e64 A n c l) (hn : 0 < n) (hn2 : n ≤ 1000000000) :
    Calls Try.prog 43 #[.slice A n c] w fun e w' => e = .returned (.int .i64 (minK l (n - 1))) ∧ w = w' := by
  obtain ⟨b, off, rfl, _⟩ := h.addr hn
  have H := hide h
  have d0 : decide ((n : Int) < 1) = false := by rw [decide_eq_false_iff_not]; omega
  have x0 := h.cellK hn 0 0 _ rfl
  simp only [Nat.mul_one, Nat.add_zero] at x0
  have H0 : Hid (l.getD 0 0 = minK l 0) := hide rfl
  rw [H0.out] at x0
  have nI : (0 : Int) < (n : Int) := by omega
  clear h
  go_enter Try.func43, Try.ntmps43
  go_wp2_with fail
  go_loopw [3, 4] (fun r3 ri wr => ∃ k : Nat, 1 ≤ k ∧ k ≤ n ∧ ri = .int .i64 (k : Int) ∧ r3 = .int .i64 (minK l (k - 1)) ∧ w = wr) (fun _ ri _ => n - (intOf ri).toNat)
  case atStart => exact ⟨1, by omega, by omega, rfl, rfl, rfl⟩
  case round =>
    obtain ⟨k, hk1, hk, rfl, rfl, rfl⟩ := hrel
    by_cases hlt : k < n
    · have a0 := H.out.cellK hlt 0 0 _ rfl
      simp only [Nat.mul_one, Nat.add_zero] at a0
      have HSU : Hid (minK l k = min (minK l (k - 1)) (l.getD k 0)) := hide (by obtain ⟨q, rfl⟩ : ∃ q, k = q + 1 := ⟨k - 1, by omega⟩; rfl)
      generalize l.getD k 0 = x at *
      have i1 : (k : Int) < (n : Int) := by omega
      have i0 : (0 : Int) ≤ (k : Int) := by omega
      have i8 : IntKind.i64.wrap ((k : Int) + 1) = (k : Int) + 1 := by rw [IntKind.wrap_i64]; omega
      go_wp2_with fail
      exact ⟨⟨k + 1, by omega, by omega, by go_num, by rw [Nat.add_sub_cancel, HSU.out], by first | trivial | rfl⟩, by simp [intOf]; omega⟩
    · obtain rfl : k = n := by omega
      go_wp2_with fail
      go_ret
      exact ⟨rfl, rfl⟩
set_option linter.unusedVariables false in
set_option maxRecDepth 100000 in
set_option maxHeartbeats 4000000 in
theorem maxI_any {A : Option Addr} {n c : Nat} {l : List Int} {w : World} (h : At w 1 e64 A n c l) (hn : 0 < n) (hn2 : n ≤ 1000000000) :
    Calls Try.prog 44 #[.slice A n c] w fun e w' => e = .returned (.int .i64 (maxK l (n - 1))) ∧ w = w' := by
  obtain ⟨b, off, rfl, _⟩ := h.addr hn
  have H := hide h
  have d0 : decide ((n : Int) < 1) = false := by rw [decide_eq_false_iff_not]; omega
  have x0 := h.cellK hn 0 0 _ rfl
  simp only [Nat.mul_one, Nat.add_zero] at x0
  have H0 : Hid (l.getD 0 0 = maxK l 0) := hide rfl
  rw [H0.out] at x0
  have nI : (0 : Int) < (n : Int) := by omega
  clear h
  go_enter Try.func44, Try.ntmps44
  go_wp2_with fail
  go_loopw [3, 4] (fun r3 ri wr => ∃ k : Nat, 1 ≤ k ∧ k ≤ n ∧ ri = .int .i64 (k : Int) ∧ r3 = .int .i64 (maxK l (k - 1)) ∧ w = wr) (fun _ ri _ => n - (intOf ri).toNat)
  case atStart => exact ⟨1, by omega, by omega, rfl, rfl, rfl⟩
  case round =>
    obtain ⟨k, hk1, hk, rfl, rfl, rfl⟩ := hrel
    by_cases hlt : k < n
    · have a0 := H.out.cellK hlt 0 0 _ rfl
      simp only [Nat.mul_one, Nat.add_zero] at a0
      have HSU : Hid (maxK l k = max (maxK l (k - 1)) (l.getD k 0)) := hide (by obtain ⟨q, rfl⟩ : ∃ q, k = q + 1 := ⟨k - 1, by omega⟩; rfl)
      generalize l.getD k 0 = x at *
      have i1 : (k : Int) < (n : Int) := by omega
      have i0 : (0 : Int) ≤ (k : Int) := by omega
      have i8 : IntKind.i64.wrap ((k : Int) + 1) = (k : Int) + 1 := by rw [IntKind.wrap_i64]; omega
      go_wp2_with fail
      exact ⟨⟨k + 1, by omega, by omega, by go_num, by rw [Nat.add_sub_cancel, HSU.out], by first | trivial | rfl⟩, by simp [intOf]; omega⟩
    · obtain rfl : k = n := by omega
      go_wp2_with fail
      go_ret
      exact ⟨rfl, rfl⟩
set_option maxRecDepth 100000 in
set_option maxHeartbeats 4000000 in
theorem cloneI_any {A : Option Addr} {n c : Nat} {l : List Int} {w : World} (h : At w 1 e64 A n c l) (hb : n ≤ 1000000000) :
    Calls Try.prog 41 #[.slice A n c] w fun e w' => ∃ A' c', e = .returned (.slice A' n c') ∧ Own w' w.heap.size 3 1 e64 (.slice A' n c') l ∧ NilIff A' A ∧ Ext w w' := by
  obtain ⟨i0, hi0, hz0, hz1, hz2⟩ := info_parts Try.info3
  have hl := h.len
  have H := hide h
  have HL := hide hl
  clear hl h
  cases A with
  | none =>
    have hn := H.out.none_ rfl
    have hle := H.out.le
    obtain rfl : n = 0 := by omega
    have hc0 : c = 0 := hn
    subst hc0
    have e1 := fun (W : World) => Lib.run_eql_slice_nil (P := Try.prog) W 23 3 none 0 0 0 0 Try.underlying23
    go_enter Try.func41, Try.ntmps41
    obtain rfl : l = [] := List.eq_nil_of_length_eq_zero HL.out
    go_wp2
    go_ret
    exact ⟨none, 0, rfl, Own.nil _ _ _ _ _, Iff.rfl, Ext.refl _⟩
  | some a =>
    have e1 := fun (W : World) => Lib.run_eql_slice_nil (P := Try.prog) W 23 3 (some a) n c 0 0 Try.underlying23
    go_enter Try.func41, Try.ntmps41
    have o0 : Own (w.alloc (.cells #[] 3)) w.heap.size 3 1 e64 (.slice (some ⟨w.heap.size, 0, none⟩) 0 0) [] :=
      ⟨by simp, .inr ⟨w.heap.size, 0, #[], rfl, Nat.le_refl _, heap_alloc_new w _, Nat.le_refl _, by unfold maxLen; omega, rfl, rfl⟩⟩
    have O0 := hide o0
    clear o0
    go_wp2_with (at_builtin; refine wpList_append_at _ rfl (.tmp 5) (.tmp 6) 23 rfl w.heap.size 3 i0 _ 8 Try.underlying23 hi0 hz0 hz1 hz2 rfl (by omega) len_e64 one_e64 (.slice (some ⟨w.heap.size, 0, none⟩) 0 0) [] rfl O0.out (some a) n c l rfl (H.out.ext (by repeat' (first | (with_reducible exact Below.refl _ _) | (with_reducible assumption) | (with_reducible refine below_drewN ?_ _) | (with_reducible refine Below.drew ?_) | (with_reducible refine ext_alloc ?_ _) | (with_reducible refine Below.setCell ?_ ?_ _) | go_size))) ?b1 ?b2 ?b3 ?_)
    case b1 => simp; have := H.out.max; have := H.out.le; unfold maxLen at *; omega
    case b2 => simp; omega
    case b3 => simp
    intro v3 w3 o3 g3 n3 _
    go_wp2
    go_ret
    obtain ⟨A3, c3, hv3, at3⟩ := o3.at_ len_e64
    try simp only [List.nil_append] at hv3 o3 at3
    rw [HL.out] at hv3
    refine ⟨A3, c3, ret_val hv3, by rw [← hv3]; exact o3, ?_, O0.out.below (by repeat' (first | (with_reducible exact Below.refl _ _) | (with_reducible assumption) | (with_reducible refine below_drewN ?_ _) | (with_reducible refine Below.drew ?_) | (with_reducible refine ext_alloc ?_ _) | (with_reducible refine Below.setCell ?_ ?_ _) | go_size)) g3 (Nat.le_refl _)⟩
    have h1 : v3 ≠ .slice none 0 0 := n3
    constructor
    · intro h
      subst h
      exfalso
      have := at3.none_ rfl
      have := at3.le
      have h2 := HL.out
      apply h1
      rw [hv3]
      obtain rfl : n = 0 := by omega
      obtain rfl : c3 = 0 := by omega
      rfl
    · intro h; cases h

/-! ### The digest, as a plain function -/
end Go.Proofs.Ytkdmfkpkelnheaa
