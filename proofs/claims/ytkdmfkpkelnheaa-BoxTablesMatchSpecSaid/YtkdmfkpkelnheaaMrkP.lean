/- Marks of samples in plain words. Plain. -/
import Derived.Test.YtkdmfkpkelnheaaSmpP
namespace Go.Proofs.Ytkdmfkpkelnheaa
def mk3 (a b c : Bool) : Nat := (if a = true then 1 else 0) + (if b = true then 2 else 0) + (if c = true then 4 else 0)
theorem mk3_lt (a b c : Bool) : mk3 a b c < 8 := by cases a <;> cases b <;> cases c <;> decide
/-- The first so many samples are alike. -/
def pS (l : List Smp) (k : Nat) : Bool := decide (∀ j, j < k → (l.getD j dS).step = (l.getD 0 dS).step)
def pH (l : List Smp) (k : Nat) : Bool := decide (∀ j, j < k → (l.getD j dS).shift = 0)
def pZ (l : List Smp) (k : Nat) : Bool := decide (∀ j, j < k → (l.getD j dS).size = (l.getD 0 dS).size)
def pK (l : List Smp) (k : Nat) : Bool := decide (∀ j, j < k → (l.getD j dS).key = decide (j = 0))
theorem all_succ {p : Nat → Prop} {k : Nat} : (∀ j, j < k + 1 → p j) ↔ (∀ j, j < k → p j) ∧ p k :=
  ⟨fun h => ⟨fun j hj => h j (by omega), h k (by omega)⟩, fun h j hj => by
    rcases Nat.lt_succ_iff_lt_or_eq.1 hj with h1 | h1
    · exact h.1 j h1
    · rw [h1]; exact h.2⟩
theorem pS_succ (l : List Smp) (k : Nat) : pS l (k + 1) = (pS l k && decide ((l.getD k dS).step = (l.getD 0 dS).step)) := by
  unfold pS; rw [Bool.eq_iff_iff]; simp only [Bool.and_eq_true, decide_eq_true_eq]; exact all_succ (p := fun j => (l.getD j dS).step = (l.getD 0 dS).step)
theorem pH_succ (l : List Smp) (k : Nat) : pH l (k + 1) = (pH l k && decide ((l.getD k dS).shift = 0)) := by
  unfold pH; rw [Bool.eq_iff_iff]; simp only [Bool.and_eq_true, decide_eq_true_eq]; exact all_succ (p := fun j => (l.getD j dS).shift = 0)
theorem pZ_succ (l : List Smp) (k : Nat) : pZ l (k + 1) = (pZ l k && decide ((l.getD k dS).size = (l.getD 0 dS).size)) := by
  unfold pZ; rw [Bool.eq_iff_iff]; simp only [Bool.and_eq_true, decide_eq_true_eq]; exact all_succ (p := fun j => (l.getD j dS).size = (l.getD 0 dS).size)
theorem pK_succ (l : List Smp) (k : Nat) : pK l (k + 1) = (pK l k && decide ((l.getD k dS).key = decide (k = 0))) := by
  unfold pK; rw [Bool.eq_iff_iff]; simp only [Bool.and_eq_true, decide_eq_true_eq]; exact all_succ (p := fun j => (l.getD j dS).key = decide (j = 0))
theorem pS_zero (l : List Smp) : pS l 0 = true := by unfold pS; simp
theorem pH_zero (l : List Smp) : pH l 0 = true := by unfold pH; simp
theorem pZ_zero (l : List Smp) : pZ l 0 = true := by unfold pZ; simp
theorem pK_zero (l : List Smp) : pK l 0 = true := by unfold pK; simp
/-- The marks of samples. -/
def mkN (l : List Smp) : Nat := mk3 (pS l l.length) (pH l l.length) (pZ l l.length) + (if (decide (0 < l.length) && pK l l.length) = true then 8 else 0)
theorem mkN_lt (l : List Smp) : mkN l < 16 := by
  unfold mkN
  have := mk3_lt (pS l l.length) (pH l l.length) (pZ l l.length)
  split <;> omega
theorem mk3_s (a b c : Bool) : mk3 a b c &&& 254 = mk3 false b c := by cases a <;> cases b <;> cases c <;> decide
theorem mk3_h (a b c : Bool) : mk3 a b c &&& 253 = mk3 a false c := by cases a <;> cases b <;> cases c <;> decide
theorem mk3_z (a b c : Bool) : mk3 a b c &&& 251 = mk3 a b false := by cases a <;> cases b <;> cases c <;> decide
theorem mk3_8 (a b c : Bool) : mk3 a b c ||| 8 = mk3 a b c + 8 := by cases a <;> cases b <;> cases c <;> decide
end Go.Proofs.Ytkdmfkpkelnheaa
