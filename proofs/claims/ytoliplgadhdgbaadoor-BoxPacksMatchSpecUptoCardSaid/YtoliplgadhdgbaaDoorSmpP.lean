/- Samples in plain words: what is wrong with them. Plain. -/
import Derived.Test.YtoliplgadhdgbaaDoorPairs
namespace Go.Proofs.YtoliplgadhdgbaaDoor
/-- A sample. -/
structure Smp where
  time : Int
  step : Int
  shift : Int
  size : Int
  key : Bool
deriving Inhabited
def dS : Smp := ⟨0, 0, 0, 0, false⟩
def noT (n : Int) : Bool := decide (n < -1000000000000000 ∨ 1000000000000000 < n)
/-- A number of a sample is out of its range. -/
def badS (x : Smp) : Bool := noT x.time || decide (x.step < 0 ∨ 1000000000 < x.step) || decide (x.shift < -1000000000 ∨ 1000000000 < x.shift) || decide (x.size < 0 ∨ 100000 < x.size)
/-- The fault of a sample behind others. -/
def smpEl (l : List Smp) (i : Nat) : Int :=
  if badS (l.getD i dS) = true then 1 else if 0 < i ∧ (l.getD i dS).time ≠ (l.getD (i - 1) dS).time + (l.getD (i - 1) dS).step then 8 else 0
def endS (l : List Smp) : Int := (l.getD (l.length - 1) dS).time + (l.getD (l.length - 1) dS).step
/-- The fault of samples. -/
def smpF (l : List Smp) : Int :=
  if 5000 < l.length then 2 else if firstF (smpEl l) l.length ≠ 0 then firstF (smpEl l) l.length else if 0 < l.length ∧ noT (endS l) = true then 1 else 0
theorem badS_ok {x : Smp} (h : badS x = false) : (-1000000000000000 ≤ x.time ∧ x.time ≤ 1000000000000000) ∧ (0 ≤ x.step ∧ x.step ≤ 1000000000) ∧ (-1000000000 ≤ x.shift ∧ x.shift ≤ 1000000000) ∧ (0 ≤ x.size ∧ x.size ≤ 100000) := by
  unfold badS noT at h
  simp only [Bool.or_eq_false_iff, decide_eq_false_iff_not] at h
  omega
theorem smpEl_zero {l : List Smp} {i : Nat} (h : smpEl l i = 0) : badS (l.getD i dS) = false ∧ (0 < i → (l.getD i dS).time = (l.getD (i - 1) dS).time + (l.getD (i - 1) dS).step) := by
  unfold smpEl at h
  cases hb : badS (l.getD i dS) with
  | true => rw [hb, if_pos rfl] at h; omega
  | false =>
    refine ⟨rfl, fun hi => Classical.byContradiction fun hc => ?_⟩
    rw [hb, if_neg (by simp), if_pos ⟨hi, hc⟩] at h
    omega
theorem smpF_zero {l : List Smp} (h : smpF l = 0) : l.length ≤ 5000 ∧ (∀ i, i < l.length → smpEl l i = 0) ∧ (0 < l.length → noT (endS l) = false) := by
  unfold smpF at h
  by_cases h1 : 5000 < l.length
  · rw [if_pos h1] at h; omega
  rw [if_neg h1] at h
  by_cases h2 : firstF (smpEl l) l.length ≠ 0
  · rw [if_pos h2] at h; exact absurd h h2
  rw [if_neg h2] at h
  refine ⟨by omega, firstF_all (by omega), fun hl => ?_⟩
  cases hb : noT (endS l) with
  | false => rfl
  | true => rw [if_pos ⟨hl, hb⟩] at h; omega
theorem smpF_of {l : List Smp} (h1 : l.length ≤ 5000) (h2 : ∀ i, i < l.length → smpEl l i = 0) (h3 : 0 < l.length → noT (endS l) = false) : smpF l = 0 := by
  unfold smpF
  rw [if_neg (by omega), if_neg (by have := firstF_zero h2; omega), if_neg]
  intro h
  rw [h3 h.1] at h
  cases h.2
end Go.Proofs.YtoliplgadhdgbaaDoor
