/- The choice by the buffer, in plain words: with more in the buffer it is not less. No condition but as stated. -/
import Init
namespace Go.Proofs.Ytlkddilgaenmaaa
/-- The last number of which something holds; 0 if there is none. -/
def lastF (P : Nat → Bool) : Nat → Int
  | 0 => 0
  | n + 1 => if P n = true then (n : Int) else lastF P n
theorem lastF_succ (P : Nat → Bool) (n : Nat) : lastF P (n + 1) = if P n = true then (n : Int) else lastF P n := rfl
theorem lastF_bd (P : Nat → Bool) : ∀ n, 0 ≤ lastF P n ∧ (lastF P n < n ∨ lastF P n = 0)
  | 0 => ⟨Int.le_refl _, Or.inr rfl⟩
  | n + 1 => by
    have := lastF_bd P n
    rw [lastF_succ]
    split <;> omega
theorem lastF_mono {P R : Nat → Bool} : ∀ {n : Nat}, (∀ i, i < n → P i = true → R i = true) → lastF P n ≤ lastF R n
  | 0, _ => Int.le_refl _
  | n + 1, h => by
    have ih := lastF_mono (n := n) fun i hi => h i (by omega)
    have h1 := lastF_bd P n
    have h2 := h n (by omega)
    rw [lastF_succ, lastF_succ]
    by_cases hp : P n = true
    · rw [if_pos hp, if_pos (h2 hp)]; omega
    · rw [if_neg hp]
      split <;> omega
/-- Does a rendition fit what is in the buffer? -/
def bufB (R : List Int) (low high buf : Int) (i : Nat) : Bool := decide ((R.getD i 0 - R.getD 0 0) * (high - low) ≤ (R.getD (R.length - 1) 0 - R.getD 0 0) * (buf - low))
/-- The choice by the buffer. -/
def bufC (R : List Int) (low high buf : Int) : Int :=
  if buf ≤ low then 0 else if high ≤ buf then (R.length : Int) - 1 else lastF (bufB R low high buf) R.length
theorem bufC_mono {R : List Int} {low high buf m : Int} (h0 : 0 < R.length) (hr : R.getD 0 0 ≤ R.getD (R.length - 1) 0) (hm : 0 ≤ m) : bufC R low high buf ≤ bufC R low high (buf + m) := by
  unfold bufC
  have b1 := lastF_bd (bufB R low high buf) R.length
  have b2 := lastF_bd (bufB R low high (buf + m)) R.length
  by_cases c1 : buf ≤ low
  · rw [if_pos c1]
    split
    · omega
    · split <;> omega
  rw [if_neg c1, if_neg (show ¬ buf + m ≤ low by omega)]
  by_cases c2 : high ≤ buf
  · rw [if_pos c2, if_pos (by omega)]; omega
  rw [if_neg c2]
  by_cases c3 : high ≤ buf + m
  · rw [if_pos c3]; omega
  rw [if_neg c3]
  refine lastF_mono fun i _ h => ?_
  unfold bufB at h ⊢
  rw [decide_eq_true_iff] at h ⊢
  have := Int.mul_le_mul_of_nonneg_left (show buf - low ≤ buf + m - low by omega) (show 0 ≤ R.getD (R.length - 1) 0 - R.getD 0 0 by omega)
  omega
end Go.Proofs.Ytlkddilgaenmaaa
