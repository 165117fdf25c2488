/- Several texts in one: Walks: slices.Clone, slices.Min and slices.Max of ints. Conditions as stated; Plain: the table of samples (compact). Conditions as stated. -/
import Derived.Test.YtlonhkjplijlcaaMfd08
import Derived.Test.YtlonhkjplijlcaaMfd21
import Derived.Test.YtlonhkjplijlcaaMfd00
import Derived.Test.YtlonhkjplijlcaaMfd06
namespace Go.Proofs.Ytlonhkjplijlcaa
open Go.RowKit
def NilIff (A B : Option Addr) : Prop := A = none ↔ B = none
def minK (l : List Int) : Nat → Int
  | 0 => l.getD 0 0
  | k + 1 => min (minK l k) (l.getD (k + 1) 0)
def maxK (l : List Int) : Nat → Int
  | 0 => l.getD 0 0
  | k + 1 => max (maxK l k) (l.getD (k + 1) 0)
theorem minK_le (l : List Int) : ∀ k i, i ≤ k → minK l k ≤ l.getD i 0
  | 0, i, h => by obtain rfl : i = 0 := by omega
                  exact Int.le_refl _
  | k + 1, i, h => by
    show min (minK l k) (l.getD (k + 1) 0) ≤ _
    rcases Nat.lt_or_ge k i with h1 | h1
    · obtain rfl : i = k + 1 := by omega
      exact Int.min_le_right _ _
    · exact Int.le_trans (Int.min_le_left _ _) (minK_le l k i h1)
theorem maxK_ge (l : List Int) : ∀ k i, i ≤ k → l.getD i 0 ≤ maxK l k
  | 0, i, h => by obtain rfl : i = 0 := by omega
                  exact Int.le_refl _
  | k + 1, i, h => by
    show _ ≤ max (maxK l k) (l.getD (k + 1) 0)
    rcases Nat.lt_or_ge k i with h1 | h1
    · obtain rfl : i = k + 1 := by omega
      exact Int.le_max_right _ _
    · exact Int.le_trans (maxK_ge l k i h1) (Int.le_max_left _ _)
theorem minmax_iff (l : List Int) (k : Nat) : minK l k = maxK l k ↔ ∀ i, i ≤ k → l.getD i 0 = l.getD 0 0 := by
  constructor
  · intro h i hi
    have a1 := minK_le l k i hi
    have a2 := maxK_ge l k i hi
    have a3 := minK_le l k 0 (Nat.zero_le _)
    have a4 := maxK_ge l k 0 (Nat.zero_le _)
    omega
  · intro h
    have key : ∀ j, j ≤ k → minK l j = l.getD 0 0 ∧ maxK l j = l.getD 0 0 := by
      intro j
      induction j with
      | zero => intro _; exact ⟨rfl, rfl⟩
      | succ j ih =>
        intro hj
        obtain ⟨b1, b2⟩ := ih (by omega)
        have b3 := h (j + 1) hj
        refine ⟨?_, ?_⟩
        · show min (minK l j) (l.getD (j + 1) 0) = _
          rw [b1, b3]; omega
        · show max (maxK l j) (l.getD (j + 1) 0) = _
          rw [b2, b3]; omega
    rw [(key k (Nat.le_refl _)).1, (key k (Nat.le_refl _)).2]
set_option linter.unusedVariables false in
set_option maxRecDepth 100000 in
set_option maxHeartbeats 4000000 in
theorem minI_any {A : Option Addr} {n c : Nat} {l : List Int} {w : World} (h : At w 1 e64 A n c l) (hn : 0 < n) (hn2 : n ≤ 1000000000) :
    Calls Try.prog 72 #[.slice A n c] w fun e w' => e = .returned (.int .i64 (minK l (n - 1))) ∧ w = w' := by
  obtain ⟨b, off, rfl, _⟩ := h.addr hn
  have H := hide h
  have d0 : decide ((n : Int) < 1) = false := by rw [decide_eq_false_iff_not]; omega
  have x0 := h.cellK hn 0 0 _ rfl
  simp only [Nat.mul_one, Nat.add_zero] at x0
  have H0 : Hid (l.getD 0 0 = minK l 0) := hide rfl
  rw [H0.out] at x0
  have nI : (0 : Int) < (n : Int) := by omega
  clear h
  go_enter Try.func72, Try.ntmps72
  go_wp2_with fail
  go_loopw [3, 4] (fun r3 ri wr => ∃ k : Nat, 1 ≤ k ∧ k ≤ n ∧ ri = .int .i64 (k : Int) ∧ r3 = .int .i64 (minK l (k - 1)) ∧ w = wr) (fun _ ri _ => n - (intOf ri).toNat)
  case atStart => exact ⟨1, by omega, by omega, rfl, rfl, rfl⟩
  case round =>
    obtain ⟨k, hk1, hk, rfl, rfl, rfl⟩ := hrel
    by_cases hlt : k < n
    · have a0 := H.out.cellK hlt 0 0 _ rfl
      simp only [Nat.mul_one, Nat.add_zero] at a0
      have HSU : Hid (minK l k = min (minK l (k - 1)) (l.getD k 0)) := hide (by obtain ⟨q, rfl⟩ : ∃ q, k = q + 1 := ⟨k - 1, by omega⟩; rfl)
      generalize l.getD k 0 = x at *
      have i1 : (k : Int) < (n : Int) := by omega
      have i0 : (0 : Int) ≤ (k : Int) := by omega
      have i8 : IntKind.i64.wrap ((k : Int) + 1) = (k : Int) + 1 := by rw [IntKind.wrap_i64]; omega
      go_wp2_with fail
      exact ⟨⟨k + 1, by omega, by omega, by go_num, by rw [Nat.add_sub_cancel, HSU.out], by first | trivial | rfl⟩, by simp [intOf]; omega⟩
    · obtain rfl : k = n := by omega
      go_wp2_with fail
      go_ret
      exact ⟨rfl, rfl⟩
set_option linter.unusedVariables false in
set_option maxRecDepth 100000 in
set_option maxHeartbeats 4000000 in
theorem maxI_any {A : Option Addr} {n c : Nat} {l : List Int} {w : World} (h : At w 1 e64 A n c l) (hn : 0 < n) (hn2 : n ≤ 1000000000) :
    Calls Try.prog 73 #[.slice A n c] w fun e w' => e = .returned (.int .i64 (maxK l (n - 1))) ∧ w = w' := by
  obtain ⟨b, off, rfl, _⟩ := h.addr hn
  have H := hide h
  have d0 : decide ((n : Int) < 1) = false := by rw [decide_eq_false_iff_not]; omega
  have x0 := h.cellK hn 0 0 _ rfl
  simp only [Nat.mul_one, Nat.add_zero] at x0
  have H0 : Hid (l.getD 0 0 = maxK l 0) := hide rfl
  rw [H0.out] at x0
  have nI : (0 : Int) < (n : Int) := by omega
  clear h
  go_enter Try.func73, Try.ntmps73
  go_wp2_with fail
  go_loopw [3, 4] (fun r3 ri wr => ∃ k : Nat, 1 ≤ k ∧ k ≤ n ∧ ri = .int .i64 (k : Int) ∧ r3 = .int .i64 (maxK l (k - 1)) ∧ w = wr) (fun _ ri _ => n - (intOf ri).toNat)
  case atStart => exact ⟨1, by omega, by omega, rfl, rfl, rfl⟩
  case round =>
    obtain ⟨k, hk1, hk, rfl, rfl, rfl⟩ := hrel
    by_cases hlt : k < n
    · have a0 := H.out.cellK hlt 0 0 _ rfl
      simp only [Nat.mul_one, Nat.add_zero] at a0
      have HSU : Hid (maxK l k = max (maxK l (k - 1)) (l.getD k 0)) := hide (by obtain ⟨q, rfl⟩ : ∃ q, k = q + 1 := ⟨k - 1, by omega⟩; rfl)
      generalize l.getD k 0 = x at *
      have i1 : (k : Int) < (n : Int) := by omega
      have i0 : (0 : Int) ≤ (k : Int) := by omega
      have i8 : IntKind.i64.wrap ((k : Int) + 1) = (k : Int) + 1 := by rw [IntKind.wrap_i64]; omega
      go_wp2_with fail
      exact ⟨⟨k + 1, by omega, by omega, by go_num, by rw [Nat.add_sub_cancel, HSU.out], by first | trivial | rfl⟩, by simp [intOf]; omega⟩
    · obtain rfl : k = n := by omega
      go_wp2_with fail
      go_ret
      exact ⟨rfl, rfl⟩
set_option maxRecDepth 100000 in
set_option maxHeartbeats 4000000 in
theorem cloneI_any {A : Option Addr} {n c : Nat} {l : List Int} {w : World} (h : At w 1 e64 A n c l) (hb : n ≤ 1000000000) :
    Calls Try.prog 70 #[.slice A n c] w fun e w' => ∃ A' c', e = .returned (.slice A' n c') ∧ Own w' w.heap.size 3 1 e64 (.slice A' n c') l ∧ NilIff A' A ∧ Ext w w' := by
  obtain ⟨i0, hi0, hz0, hz1, hz2⟩ := info_parts Try.info3
  have hl := h.len
  have H := hide h
  have HL := hide hl
  clear hl h
  cases A with
  | none =>
    have hn := H.out.none_ rfl
    have hle := H.out.le
    obtain rfl : n = 0 := by omega
    have hc0 : c = 0 := hn
    subst hc0
    have e1 := fun (W : World) => Lib.run_eql_slice_nil (P := Try.prog) W 70 3 none 0 0 0 0 Try.underlying70
    go_enter Try.func70, Try.ntmps70
    obtain rfl : l = [] := List.eq_nil_of_length_eq_zero HL.out
    go_wp2
    go_ret
    exact ⟨none, 0, rfl, Own.nil _ _ _ _ _, Iff.rfl, Ext.refl _⟩
  | some a =>
    have e1 := fun (W : World) => Lib.run_eql_slice_nil (P := Try.prog) W 70 3 (some a) n c 0 0 Try.underlying70
    go_enter Try.func70, Try.ntmps70
    have o0 : Own (w.alloc (.cells #[] 3)) w.heap.size 3 1 e64 (.slice (some ⟨w.heap.size, 0, none⟩) 0 0) [] :=
      ⟨by simp, .inr ⟨w.heap.size, 0, #[], rfl, Nat.le_refl _, heap_alloc_new w _, Nat.le_refl _, by unfold maxLen; omega, rfl, rfl⟩⟩
    have O0 := hide o0
    clear o0
    go_wp2_with (at_builtin; refine wpList_append_at _ rfl (.tmp 5) (.tmp 6) 70 rfl w.heap.size 3 i0 _ 8 Try.underlying70 hi0 hz0 hz1 hz2 rfl (by omega) len_e64 one_e64 (.slice (some ⟨w.heap.size, 0, none⟩) 0 0) [] rfl O0.out (some a) n c l rfl (H.out.ext (by repeat' (first | (with_reducible first | exact Below.refl _ _ | assumption | refine below_drewN ?_ _ | refine Below.drew ?_ | refine ext_alloc ?_ _ | refine Below.setCell ?_ ?_ _) | go_size))) ?b1 ?b2 ?b3 ?_)
    case b1 => simp; have := H.out.max; have := H.out.le; unfold maxLen at *; omega
    case b2 => simp; omega
    case b3 => simp
    intro v3 w3 o3 g3 n3 _
    go_wp2
    go_ret
    obtain ⟨A3, c3, hv3, at3⟩ := o3.at_ len_e64
    try simp only [List.nil_append] at hv3 o3 at3
    rw [HL.out] at hv3
    refine ⟨A3, c3, ret_val hv3, by rw [← hv3]; exact o3, ?_, O0.out.below (by repeat' (first | (with_reducible first | exact Below.refl _ _ | assumption | refine below_drewN ?_ _ | refine Below.drew ?_ | refine ext_alloc ?_ _ | refine Below.setCell ?_ ?_ _) | go_size)) g3 (Nat.le_refl _)⟩
    have h1 : v3 ≠ .slice none 0 0 := n3
    constructor
    · intro h
      subst h
      exfalso
      have := at3.none_ rfl
      have := at3.le
      have h2 := HL.out
      apply h1
      rw [hv3]
      obtain rfl : n = 0 := by omega
      obtain rfl : c3 = 0 := by omega
      rfl
    · intro h; cases h
end Go.Proofs.Ytlonhkjplijlcaa
namespace Go.Proofs.Ytlonhkjplijlcaa
def rowK (f : Smp → Int) (l : List Smp) : Nat → List (Int × Int)
  | 0 => []
  | k + 1 => addR (rowK f l k) (f (l.getD k dS))
theorem addR_bd {l : List (Int × Int)} {x m : Int} (h : ∀ i, i < l.length → 1 ≤ (l.getD i (0, 0)).1 ∧ (l.getD i (0, 0)).1 ≤ m) (hm : 0 ≤ m) : ∀ i, i < (addR l x).length → 1 ≤ ((addR l x).getD i (0, 0)).1 ∧ ((addR l x).getD i (0, 0)).1 ≤ m + 1 := by
  unfold addR
  split
  · rename_i hc
    intro i hi
    rw [List.length_set] at hi
    by_cases hl : i = l.length - 1
    · subst hl
      obtain ⟨h1, h2⟩ := h (l.length - 1) (by omega)
      have e : (l.set (l.length - 1) ((l.getD (l.length - 1) (0, 0)).1 + 1, x)).getD (l.length - 1) (0, 0) = ((l.getD (l.length - 1) (0, 0)).1 + 1, x) := by
        rw [List.getD_eq_getElem?_getD, List.getElem?_set_self (by omega)]; rfl
      rw [e]
      exact ⟨by show 1 ≤ (l.getD (l.length - 1) (0, 0)).1 + 1; omega, by show (l.getD (l.length - 1) (0, 0)).1 + 1 ≤ m + 1; omega⟩
    · have e : (l.set (l.length - 1) ((l.getD (l.length - 1) (0, 0)).1 + 1, x)).getD i (0, 0) = l.getD i (0, 0) := by
        rw [List.getD_eq_getElem?_getD, List.getElem?_set_ne (by omega), ← List.getD_eq_getElem?_getD]
      rw [e]
      obtain ⟨h1, h2⟩ := h i hi
      exact ⟨h1, by omega⟩
  · intro i hi
    rw [List.length_append] at hi
    simp only [List.length_cons, List.length_nil] at hi
    by_cases hl : i < l.length
    · have e : (l ++ [((1 : Int), x)]).getD i (0, 0) = l.getD i (0, 0) := by
        rw [List.getD_eq_getElem?_getD, List.getElem?_append_left hl, ← List.getD_eq_getElem?_getD]
      rw [e]
      obtain ⟨h1, h2⟩ := h i hl
      exact ⟨h1, by omega⟩
    · obtain rfl : i = l.length := by omega
      have e : (l ++ [((1 : Int), x)]).getD l.length (0, 0) = (1, x) := by
        rw [List.getD_eq_getElem?_getD, List.getElem?_append_right (Nat.le_refl _)]; simp
      rw [e]
      exact ⟨by show (1 : Int) ≤ 1; omega, by show (1 : Int) ≤ m + 1; omega⟩
theorem rowK_bd (f : Smp → Int) (l : List Smp) : ∀ k : Nat, (rowK f l k).length ≤ k ∧ ∀ i, i < (rowK f l k).length → 1 ≤ ((rowK f l k).getD i (0, 0)).1 ∧ ((rowK f l k).getD i (0, 0)).1 ≤ (k : Int)
  | 0 => ⟨Nat.le_refl _, fun i hi => absurd hi (Nat.not_lt_zero _)⟩
  | k + 1 => by
    obtain ⟨h1, h2⟩ := rowK_bd f l k
    refine ⟨Nat.le_trans (addR_len _ _) (by omega), fun i hi => ?_⟩
    have := addR_bd h2 (by omega) i hi
    exact ⟨this.1, by have := this.2; show _ ≤ ((k + 1 : Nat) : Int); rw [Int.natCast_add]; exact this⟩
theorem rowK_last (f : Smp → Int) (l : List Smp) {k : Nat} (hk : k ≤ 1000000) : -1 ≤ ((rowK f l k).getD ((rowK f l k).length - 1) (0, 0)).1 ∧ ((rowK f l k).getD ((rowK f l k).length - 1) (0, 0)).1 ≤ 1000000000000 := by
  obtain ⟨_, h2⟩ := rowK_bd f l k
  by_cases h : 0 < (rowK f l k).length
  · have := h2 ((rowK f l k).length - 1) (by omega)
    omega
  · have e : (rowK f l k).getD ((rowK f l k).length - 1) (0, 0) = (0, 0) := by
      rw [List.getD_eq_getElem?_getD, List.getElem?_eq_none (by omega)]; rfl
    rw [e]; show (-1 : Int) ≤ 0 ∧ (0 : Int) ≤ _; omega
def keyK (l : List Smp) : Nat → List Int
  | 0 => []
  | k + 1 => if (l.getD k dS).key = true then keyK l k ++ [(k : Int) + 1] else keyK l k
theorem keyK_len (l : List Smp) : ∀ k, (keyK l k).length ≤ k
  | 0 => Nat.le_refl _
  | k + 1 => by
    have := keyK_len l k
    unfold keyK
    split
    · rw [List.length_append]; simp; omega
    · omega
theorem keyK_all (l : List Smp) : ∀ k, (keyK l k).length = k ↔ ∀ i, i < k → (l.getD i dS).key = true
  | 0 => ⟨fun _ i hi => absurd hi (Nat.not_lt_zero _), fun _ => rfl⟩
  | k + 1 => by
    have h1 := keyK_len l k
    have h2 := keyK_all l k
    unfold keyK
    split
    · rename_i hk
      rw [List.length_append]
      simp only [List.length_cons, List.length_nil]
      constructor
      · intro h i hi
        rcases Nat.lt_or_ge i k with h3 | h3
        · exact h2.1 (by omega) i h3
        · obtain rfl : i = k := by omega
          exact hk
      · intro h
        have := h2.2 (fun i hi => h i (by omega))
        omega
    · rename_i hk
      constructor
      · intro h; omega
      · intro h; exact absurd (h k (by omega)) hk
def chK (ch : List Int) : Nat → List (Int × Int)
  | 0 => []
  | k + 1 => if k = 0 ∨ ch.getD k 0 ≠ ch.getD (k - 1) 0 then chK ch k ++ [((k : Int) + 1, ch.getD k 0)] else chK ch k
theorem chK_last (ch : List Int) : ∀ k, 0 < k → 0 < (chK ch k).length ∧ ((chK ch k).getD ((chK ch k).length - 1) (0, 0)).2 = ch.getD (k - 1) 0
  | 0, h => absurd h (Nat.lt_irrefl _)
  | k + 1, _ => by
    unfold chK
    split
    · rename_i hc
      refine ⟨by rw [List.length_append]; simp, ?_⟩
      rw [List.length_append]
      simp only [List.length_cons, List.length_nil, Nat.add_sub_cancel]
      rw [List.getD_eq_getElem?_getD, List.getElem?_append_right (by omega)]
      simp
    · rename_i hc
      have hc : 0 < k ∧ ch.getD k 0 = ch.getD (k - 1) 0 := by
        refine ⟨by omega, ?_⟩
        by_cases h : ch.getD k 0 = ch.getD (k - 1) 0
        · exact h
        · exact absurd (.inr h) hc
      obtain ⟨h1, h2⟩ := chK_last ch k hc.1
      exact ⟨h1, by rw [h2, Nat.add_sub_cancel]; exact hc.2.symm⟩
theorem chK_len (ch : List Int) : ∀ k, (chK ch k).length ≤ k
  | 0 => Nat.le_refl _
  | k + 1 => by
    have := chK_len ch k
    unfold chK
    split
    · rw [List.length_append]; simp; omega
    · omega
theorem chK_test (ch : List Int) (k : Nat) : ((chK ch k).length = 0 ∨ ((chK ch k).getD ((chK ch k).length - 1) (0, 0)).2 ≠ ch.getD k 0) ↔ (k = 0 ∨ ch.getD k 0 ≠ ch.getD (k - 1) 0) := by
  rcases Nat.eq_zero_or_pos k with h | h
  · subst h; simp [chK]
  · obtain ⟨h1, h2⟩ := chK_last ch k h
    rw [h2]
    constructor
    · rintro (h3 | h3)
      · omega
      · exact .inr (fun e => h3 e.symm)
    · rintro (h3 | h3)
      · omega
      · exact .inr (fun e => h3 e.symm)
end Go.Proofs.Ytlonhkjplijlcaa
