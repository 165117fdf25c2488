/- Several texts in one: Plain: the table that compact makes. Conditions as stated; A result variable that is a table, read back. Conditions as stated. -/
import Derived.Test.YtlonhkjplijlcaaMfd24
import Derived.Test.YtlonhkjplijlcaaMfd23
namespace Go.Proofs.Ytlonhkjplijlcaa
open Go.RowKit
def szK (l : List Smp) : Nat → List Int
  | 0 => []
  | k + 1 => szK l k ++ [(l.getD k dS).size]
theorem szK_len (l : List Smp) : ∀ k, (szK l k).length = k
  | 0 => rfl
  | k + 1 => by rw [szK, List.length_append, szK_len l k]; rfl
theorem szK_at (l : List Smp) {i : Nat} : ∀ k, i < k → (szK l k).getD i 0 = (l.getD i dS).size
  | 0, h => absurd h (Nat.not_lt_zero _)
  | k + 1, h => by
    have hk := szK_len l k
    rw [szK]
    rcases Nat.lt_or_ge i k with h1 | h1
    · rw [List.getD_eq_getElem?_getD, List.getElem?_append_left (by omega), ← List.getD_eq_getElem?_getD, szK_at l k h1]
    · obtain rfl : i = k := by omega
      rw [List.getD_eq_getElem?_getD, List.getElem?_append_right (by omega), hk]
      simp
def oneK (l : List Smp) : Nat → Bool
  | 0 => true
  | k + 1 => oneK l k && decide ((l.getD k dS).size = (l.getD 0 dS).size)
theorem oneK_iff (l : List Smp) : ∀ k, oneK l k = true ↔ ∀ i, i < k → (l.getD i dS).size = (l.getD 0 dS).size
  | 0 => ⟨fun _ i h => absurd h (Nat.not_lt_zero _), fun _ => rfl⟩
  | k + 1 => by
    rw [oneK, Bool.and_eq_true, decide_eq_true_iff, oneK_iff l k]
    constructor
    · intro h i hi
      rcases Nat.lt_or_ge i k with h1 | h1
      · exact h.1 i h1
      · obtain rfl : i = k := by omega
        exact h.2
    · intro h
      exact ⟨fun i hi => h i (by omega), h k (Nat.lt_succ_self k)⟩
def allK (l : List Smp) : Nat → Bool
  | 0 => true
  | k + 1 => allK l k && (l.getD k dS).key
theorem allK_iff (l : List Smp) : ∀ k, allK l k = true ↔ ∀ i, i < k → (l.getD i dS).key = true
  | 0 => ⟨fun _ i h => absurd h (Nat.not_lt_zero _), fun _ => rfl⟩
  | k + 1 => by
    rw [allK, Bool.and_eq_true, allK_iff l k]
    constructor
    · intro h i hi
      rcases Nat.lt_or_ge i k with h1 | h1
      · exact h.1 i h1
      · obtain rfl : i = k := by omega
        exact h.2
    · intro h
      exact ⟨fun i hi => h i (by omega), h k (Nat.lt_succ_self k)⟩
def cmpT (l : List Smp) (ch pl : List Int) : Tab :=
  ⟨if 0 < l.length then (l.getD 0 dS).time else 0, rowK Smp.step l l.length, rowK Smp.shift l l.length, if oneK l l.length = true then (szK l l.length).take 1 else szK l l.length,
    if allK l l.length = true then [] else keyK l l.length, allK l l.length, chK ch ch.length, pl⟩
theorem one_test (l : List Smp) {n : Nat} (h : 0 < n) : minK (szK l n) (n - 1) = maxK (szK l n) (n - 1) ↔ oneK l n = true := by
  rw [minmax_iff, oneK_iff]
  constructor
  · intro h1 i hi
    have := h1 i (by omega)
    rwa [szK_at l n hi, szK_at l n h] at this
  · intro h1 i hi
    rw [szK_at l n (by omega), szK_at l n h]
    exact h1 i (by omega)
theorem all_test (l : List Smp) (n : Nat) : (keyK l n).length < n ↔ allK l n = false := by
  have h1 := keyK_len l n
  have h2 := keyK_all l n
  have h3 := allK_iff l n
  cases h : allK l n with
  | true =>
    have := h2.2 (h3.1 h)
    constructor
    · intro h4; omega
    · intro h4; cases h4
  | false =>
    refine ⟨fun _ => rfl, fun _ => ?_⟩
    rcases Nat.lt_or_ge (keyK l n).length n with h4 | h4
    · exact h4
    · have := h3.2 (h2.1 (by omega))
      rw [h] at this; cases this
theorem chunks_few {l : List Smp} {ch pl : List Int} (h : cmpF l ch pl = 0) : l.length ≤ 5000 ∧ ch.length ≤ 5000 ∧ pl.length ≤ 5000 := by
  unfold cmpF at h
  by_cases h1 : smpF l ≠ 0
  · rw [if_pos h1] at h; exact absurd h h1
  rw [if_neg h1] at h
  by_cases h2 : ch.length ≠ pl.length
  · rw [if_pos h2] at h; omega
  rw [if_neg h2] at h
  by_cases h3 : firstF (cqEl ch) ch.length ≠ 0
  · rw [if_pos h3] at h; omega
  rw [if_neg h3] at h
  by_cases h4 : sumI ch ch.length ≠ (l.length : Int)
  · rw [if_pos h4] at h; omega
  have h5 := (smpF_zero (by omega : smpF l = 0)).1
  have key : ∀ k, k ≤ ch.length → (k : Int) ≤ sumI ch k := by
    intro k
    induction k with
    | zero => intro _; simp [sumI]
    | succ k ih =>
      intro hk
      have h6 := firstF_all (by omega : firstF (cqEl ch) ch.length = 0) k (by omega)
      unfold cqEl at h6
      have h7 : ¬ (ch.getD k 0 < 1 ∨ 1000 < ch.getD k 0) := fun hc => by rw [if_pos hc] at h6; omega
      have := ih (by omega)
      rw [sumI]; omega
  have := key ch.length (Nat.le_refl _)
  omega
theorem res_table {fn : Func} (hr : fn.results = #[.cell 6 73]) {tmps : Array Value} {W : World} {g : Nat} {c0 c1 c2 c3 c4 c5 c6 : Value} (h : tmps.getD 6 undef = .pointer (some ⟨g, 0, none⟩)) (hb : Blk W g 73 #[c0, c1, c2, c3, c4, c5, c6]) :
    (results fn tmps).run Try.prog W = .ok (.agg #[c0, c1, c2, c3, c4, c5, c6]) W := by
  have k0 : W.cell? ⟨g, 0, none⟩ = some c0 := hb.cell 0
  have k1 : W.cell? ⟨g, 1, none⟩ = some c1 := hb.cell 1
  have k2 : W.cell? ⟨g, 2, none⟩ = some c2 := hb.cell 2
  have k3 : W.cell? ⟨g, 3, none⟩ = some c3 := hb.cell 3
  have k4 : W.cell? ⟨g, 4, none⟩ = some c4 := hb.cell 4
  have k5 : W.cell? ⟨g, 5, none⟩ = some c5 := hb.cell 5
  have k6 : W.cell? ⟨g, 6, none⟩ = some c6 := hb.cell 6
  have h' : tmps[6]?.getD undef = .pointer (some ⟨g, 0, none⟩) := by rw [← h]; simp
  simp [results, hr, h', go_sem, k0, k1, k2, k3, k4, k5, k6]
end Go.Proofs.Ytlonhkjplijlcaa
