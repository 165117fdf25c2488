/- Plain: the table of samples (compact). Conditions as stated. -/
import Derived.Test.YtkdmfkpkelnheaaAddR
import Derived.Test.YtkdmfkpkelnheaaSmpP
import Derived.Test.YtkdmfkpkelnheaaMinX
import Derived.Test.YtkdmfkpkelnheaaTabP
namespace Go.Proofs.Ytkdmfkpkelnheaa
/-- The runs of the first k numbers. -/
def rowK (f : Smp → Int) (l : List Smp) : Nat → List (Int × Int)
  | 0 => []
  | k + 1 => addR (rowK f l k) (f (l.getD k dS))
theorem addR_bd {l : List (Int × Int)} {x m : Int} (h : ∀ i, i < l.length → 1 ≤ (l.getD i (0, 0)).1 ∧ (l.getD i (0, 0)).1 ≤ m) (hm : 0 ≤ m) : ∀ i, i < (addR l x).length → 1 ≤ ((addR l x).getD i (0, 0)).1 ∧ ((addR l x).getD i (0, 0)).1 ≤ m + 1 := by
  unfold addR
  split
  · rename_i hc
    intro i hi
    rw [List.length_set] at hi
    by_cases hl : i = l.length - 1
    · subst hl
      obtain ⟨h1, h2⟩ := h (l.length - 1) (by omega)
      have e : (l.set (l.length - 1) ((l.getD (l.length - 1) (0, 0)).1 + 1, x)).getD (l.length - 1) (0, 0) = ((l.getD (l.length - 1) (0, 0)).1 + 1, x) := by
        rw [List.getD_eq_getElem?_getD, List.getElem?_set_self (by omega)]; rfl
      rw [e]
      exact ⟨by show 1 ≤ (l.getD (l.length - 1) (0, 0)).1 + 1; omega, by show (l.getD (l.length - 1) (0, 0)).1 + 1 ≤ m + 1; omega⟩
    · have e : (l.set (l.length - 1) ((l.getD (l.length - 1) (0, 0)).1 + 1, x)).getD i (0, 0) = l.getD i (0, 0) := by
        rw [List.getD_eq_getElem?_getD, List.getElem?_set_ne (by omega), ← List.getD_eq_getElem?_getD]
      rw [e]
      obtain ⟨h1, h2⟩ := h i hi
      exact ⟨h1, by omega⟩
  · intro i hi
    rw [List.length_append] at hi
    simp only [List.length_cons, List.length_nil] at hi
    by_cases hl : i < l.length
    · have e : (l ++ [((1 : Int), x)]).getD i (0, 0) = l.getD i (0, 0) := by
        rw [List.getD_eq_getElem?_getD, List.getElem?_append_left hl, ← List.getD_eq_getElem?_getD]
      rw [e]
      obtain ⟨h1, h2⟩ := h i hl
      exact ⟨h1, by omega⟩
    · obtain rfl : i = l.length := by omega
      have e : (l ++ [((1 : Int), x)]).getD l.length (0, 0) = (1, x) := by
        rw [List.getD_eq_getElem?_getD, List.getElem?_append_right (Nat.le_refl _)]; simp
      rw [e]
      exact ⟨by show (1 : Int) ≤ 1; omega, by show (1 : Int) ≤ m + 1; omega⟩
theorem rowK_bd (f : Smp → Int) (l : List Smp) : ∀ k : Nat, (rowK f l k).length ≤ k ∧ ∀ i, i < (rowK f l k).length → 1 ≤ ((rowK f l k).getD i (0, 0)).1 ∧ ((rowK f l k).getD i (0, 0)).1 ≤ (k : Int)
  | 0 => ⟨Nat.le_refl _, fun i hi => absurd hi (Nat.not_lt_zero _)⟩
  | k + 1 => by
    obtain ⟨h1, h2⟩ := rowK_bd f l k
    refine ⟨Nat.le_trans (addR_len _ _) (by omega), fun i hi => ?_⟩
    have := addR_bd h2 (by omega) i hi
    exact ⟨this.1, by have := this.2; show _ ≤ ((k + 1 : Nat) : Int); rw [Int.natCast_add]; exact this⟩
/-- What an addRun needs of the last run. -/
theorem rowK_last (f : Smp → Int) (l : List Smp) {k : Nat} (hk : k ≤ 1000000) : -1 ≤ ((rowK f l k).getD ((rowK f l k).length - 1) (0, 0)).1 ∧ ((rowK f l k).getD ((rowK f l k).length - 1) (0, 0)).1 ≤ 1000000000000 := by
  obtain ⟨_, h2⟩ := rowK_bd f l k
  by_cases h : 0 < (rowK f l k).length
  · have := h2 ((rowK f l k).length - 1) (by omega)
    omega
  · have e : (rowK f l k).getD ((rowK f l k).length - 1) (0, 0) = (0, 0) := by
      rw [List.getD_eq_getElem?_getD, List.getElem?_eq_none (by omega)]; rfl
    rw [e]; show (-1 : Int) ≤ 0 ∧ (0 : Int) ≤ _; omega
/-- The numbers of the key samples among the first k. -/
def keyK (l : List Smp) : Nat → List Int
  | 0 => []
  | k + 1 => if (l.getD k dS).key = true then keyK l k ++ [(k : Int) + 1] else keyK l k
theorem keyK_len (l : List Smp) : ∀ k, (keyK l k).length ≤ k
  | 0 => Nat.le_refl _
  | k + 1 => by
    have := keyK_len l k
    unfold keyK
    split
    · rw [List.length_append]; simp; omega
    · omega
theorem keyK_all (l : List Smp) : ∀ k, (keyK l k).length = k ↔ ∀ i, i < k → (l.getD i dS).key = true
  | 0 => ⟨fun _ i hi => absurd hi (Nat.not_lt_zero _), fun _ => rfl⟩
  | k + 1 => by
    have h1 := keyK_len l k
    have h2 := keyK_all l k
    unfold keyK
    split
    · rename_i hk
      rw [List.length_append]
      simp only [List.length_cons, List.length_nil]
      constructor
      · intro h i hi
        rcases Nat.lt_or_ge i k with h3 | h3
        · exact h2.1 (by omega) i h3
        · obtain rfl : i = k := by omega
          exact hk
      · intro h
        have := h2.2 (fun i hi => h i (by omega))
        omega
    · rename_i hk
      constructor
      · intro h; omega
      · intro h; exact absurd (h k (by omega)) hk
/-- The runs of the first k chunks. -/
def chK (ch : List Int) : Nat → List (Int × Int)
  | 0 => []
  | k + 1 => if k = 0 ∨ ch.getD k 0 ≠ ch.getD (k - 1) 0 then chK ch k ++ [((k : Int) + 1, ch.getD k 0)] else chK ch k
theorem chK_last (ch : List Int) : ∀ k, 0 < k → 0 < (chK ch k).length ∧ ((chK ch k).getD ((chK ch k).length - 1) (0, 0)).2 = ch.getD (k - 1) 0
  | 0, h => absurd h (Nat.lt_irrefl _)
  | k + 1, _ => by
    unfold chK
    split
    · rename_i hc
      refine ⟨by rw [List.length_append]; simp, ?_⟩
      rw [List.length_append]
      simp only [List.length_cons, List.length_nil, Nat.add_sub_cancel]
      rw [List.getD_eq_getElem?_getD, List.getElem?_append_right (by omega)]
      simp
    · rename_i hc
      have hc : 0 < k ∧ ch.getD k 0 = ch.getD (k - 1) 0 := by
        refine ⟨by omega, ?_⟩
        by_cases h : ch.getD k 0 = ch.getD (k - 1) 0
        · exact h
        · exact absurd (.inr h) hc
      obtain ⟨h1, h2⟩ := chK_last ch k hc.1
      exact ⟨h1, by rw [h2, Nat.add_sub_cancel]; exact hc.2.symm⟩
theorem chK_len (ch : List Int) : ∀ k, (chK ch k).length ≤ k
  | 0 => Nat.le_refl _
  | k + 1 => by
    have := chK_len ch k
    unfold chK
    split
    · rw [List.length_append]; simp; omega
    · omega
/-- The test of the program: no run yet, or another number. -/
theorem chK_test (ch : List Int) (k : Nat) : ((chK ch k).length = 0 ∨ ((chK ch k).getD ((chK ch k).length - 1) (0, 0)).2 ≠ ch.getD k 0) ↔ (k = 0 ∨ ch.getD k 0 ≠ ch.getD (k - 1) 0) := by
  rcases Nat.eq_zero_or_pos k with h | h
  · subst h; simp [chK]
  · obtain ⟨h1, h2⟩ := chK_last ch k h
    rw [h2]
    constructor
    · rintro (h3 | h3)
      · omega
      · exact .inr (fun e => h3 e.symm)
    · rintro (h3 | h3)
      · omega
      · exact .inr (fun e => h3 e.symm)
end Go.Proofs.Ytkdmfkpkelnheaa
