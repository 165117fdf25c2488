/- Tables in plain words: what is wrong with them. Plain. -/
import Derived.Test.YtoliplgadhdgbaaDoorSmpP
namespace Go.Proofs.YtoliplgadhdgbaaDoor
/-- A table. -/
structure Tab where
  start : Int
  steps : List (Int × Int)
  shifts : List (Int × Int)
  sizes : List Int
  keys : List Int
  nok : Bool
  chunks : List (Int × Int)
  places : List Int
/-- A run is out of its range. -/
def badR (least : Int) (r : Int × Int) : Bool := decide (r.1 < 1 ∨ 5000 < r.1) || decide (r.2 < least ∨ 1000000000 < r.2)
def rnEl (least : Int) (l : List (Int × Int)) (i : Nat) : Int := if badR least (l.getD i (0, 0)) = true then 1 else 0
def runsF (least : Int) (l : List (Int × Int)) : Int := firstF (rnEl least l) l.length
/-- The counts of the first runs. -/
def cntI (l : List (Int × Int)) : Nat → Int
  | 0 => 0
  | k + 1 => cntI l k + (l.getD k (0, 0)).1
def cntA (l : List (Int × Int)) : Int := cntI l l.length
def szEl (l : List Int) (i : Nat) : Int := if l.getD i 0 < 0 ∨ 100000 < l.getD i 0 then 1 else 0
def kyEl (n : Int) (l : List Int) (i : Nat) : Int := if l.getD i 0 < 1 ∨ n < l.getD i 0 then 1 else if 0 < i ∧ l.getD i 0 ≤ l.getD (i - 1) 0 then 8 else 0
/-- A chunk is out of its range. -/
def badC (r : Int × Int) : Bool := decide (r.1 < 1 ∨ 5000 < r.1) || decide (r.2 < 1 ∨ 1000 < r.2)
def ordC (l : List (Int × Int)) (i : Nat) : Bool := decide ((i = 0 ∧ (l.getD i (0, 0)).1 ≠ 1) ∨ (0 < i ∧ (l.getD i (0, 0)).1 ≤ (l.getD (i - 1) (0, 0)).1))
def chEl (l : List (Int × Int)) (i : Nat) : Int := if badC (l.getD i (0, 0)) = true then 1 else if ordC l i = true then 8 else 0
def chForm (l : List (Int × Int)) (p : Nat) : Prop := (0 < p ∧ l.length = 0) ∨ (0 < l.length ∧ (p : Int) < (l.getD (l.length - 1) (0, 0)).1)
instance (l : List (Int × Int)) (p : Nat) : Decidable (chForm l p) := by unfold chForm; infer_instance
def nextC (l : List (Int × Int)) (p i : Nat) : Int := if i + 1 < l.length then (l.getD (i + 1) (0, 0)).1 else (p : Int) + 1
def chSum (l : List (Int × Int)) (p : Nat) : Nat → Int
  | 0 => 0
  | k + 1 => chSum l p k + (nextC l p k - (l.getD k (0, 0)).1) * (l.getD k (0, 0)).2
def plEl (l : List Int) (i : Nat) : Int := if l.getD i 0 < 0 ∨ 1000000 < l.getD i 0 then 1 else 0
def chunksF (n : Int) (l : List (Int × Int)) (pl : List Int) : Int :=
  if firstF (chEl l) l.length ≠ 0 then firstF (chEl l) l.length else if chForm l pl.length then 3 else if chSum l pl.length l.length ≠ n then 3 else firstF (plEl pl) pl.length
/-- The end of the first runs. -/
def endI (s : Int) (l : List (Int × Int)) : Nat → Int
  | 0 => s
  | k + 1 => endI s l k + (l.getD k (0, 0)).1 * (l.getD k (0, 0)).2
def szBad (n : Int) (m : Nat) : Prop := (m : Int) ≠ n ∧ (n = 0 ∨ m ≠ 1)
instance (n : Int) (m : Nat) : Decidable (szBad n m) := by unfold szBad; infer_instance
/-- The fault of a table behind that of its start and its steps. -/
def tabF3 (t : Tab) : Int :=
  if chunksF (cntA t.steps) t.chunks t.places ≠ 0 then chunksF (cntA t.steps) t.chunks t.places
  else if noT (endI t.start t.steps t.steps.length) = true then 1 else 0
def tabF2 (t : Tab) : Int :=
  if cntA t.shifts ≠ cntA t.steps ∨ szBad (cntA t.steps) t.sizes.length then 3
  else if firstF (szEl t.sizes) t.sizes.length ≠ 0 then firstF (szEl t.sizes) t.sizes.length
  else if firstF (kyEl (cntA t.steps) t.keys) t.keys.length ≠ 0 then firstF (kyEl (cntA t.steps) t.keys) t.keys.length
  else tabF3 t
def tabF (t : Tab) : Int :=
  if noT t.start = true then 1 else if runsF 0 t.steps ≠ 0 then runsF 0 t.steps else if 5000 < cntA t.steps then 2
  else if runsF (-1000000000) t.shifts ≠ 0 then runsF (-1000000000) t.shifts else tabF2 t
theorem badR_ok {least : Int} {r : Int × Int} (h : badR least r = false) : 1 ≤ r.1 ∧ r.1 ≤ 5000 ∧ least ≤ r.2 ∧ r.2 ≤ 1000000000 := by
  unfold badR at h
  simp only [Bool.or_eq_false_iff, decide_eq_false_iff_not] at h
  omega
theorem runs_ok {least : Int} {l : List (Int × Int)} (h : runsF least l = 0) : ∀ i, i < l.length → 1 ≤ (l.getD i (0, 0)).1 ∧ (l.getD i (0, 0)).1 ≤ 5000 ∧ least ≤ (l.getD i (0, 0)).2 ∧ (l.getD i (0, 0)).2 ≤ 1000000000 := by
  intro i hi
  have := firstF_all h i hi
  unfold rnEl at this
  cases hb : badR least (l.getD i (0, 0)) with
  | true => rw [hb, if_pos rfl] at this; omega
  | false => exact badR_ok hb
theorem cntI_bd {least : Int} {l : List (Int × Int)} (h : runsF least l = 0) : ∀ k, k ≤ l.length → (k : Int) ≤ cntI l k ∧ cntI l k ≤ 5000 * (k : Int)
  | 0, _ => by simp [cntI]
  | k + 1, hk => by
    have ih := cntI_bd h k (by omega)
    have := runs_ok h k (by omega)
    rw [cntI]; omega
theorem endI_bd {s : Int} {l : List (Int × Int)} (h : runsF 0 l = 0) : ∀ k, k ≤ l.length → s ≤ endI s l k ∧ endI s l k ≤ s + 1000000000 * cntI l k
  | 0, _ => by simp [endI, cntI]
  | k + 1, hk => by
    have ih := endI_bd (s := s) h k (by omega)
    have h1 := runs_ok h k (by omega)
    have hc := cntI_bd h k (by omega)
    rw [endI, cntI]
    have h2 : 0 ≤ (l.getD k (0, 0)).1 * (l.getD k (0, 0)).2 := Int.mul_nonneg (by omega) (by omega)
    have h3 : (l.getD k (0, 0)).1 * (l.getD k (0, 0)).2 ≤ (l.getD k (0, 0)).1 * 1000000000 := Int.mul_le_mul_of_nonneg_left (by omega) (by omega)
    generalize (l.getD k (0, 0)).1 * (l.getD k (0, 0)).2 = q at *
    omega
theorem badC_ok {r : Int × Int} (h : badC r = false) : 1 ≤ r.1 ∧ r.1 ≤ 5000 ∧ 1 ≤ r.2 ∧ r.2 ≤ 1000 := by
  unfold badC at h
  simp only [Bool.or_eq_false_iff, decide_eq_false_iff_not] at h
  omega
/-- Chunks that are right: ascending from 1 on. -/
theorem ch_ok {l : List (Int × Int)} (h : firstF (chEl l) l.length = 0) : ∀ i, i < l.length → (1 ≤ (l.getD i (0, 0)).1 ∧ (l.getD i (0, 0)).1 ≤ 5000 ∧ 1 ≤ (l.getD i (0, 0)).2 ∧ (l.getD i (0, 0)).2 ≤ 1000) ∧ (i = 0 → (l.getD i (0, 0)).1 = 1) ∧ (0 < i → (l.getD (i - 1) (0, 0)).1 < (l.getD i (0, 0)).1) := by
  intro i hi
  have := firstF_all h i hi
  unfold chEl at this
  cases hb : badC (l.getD i (0, 0)) with
  | true => rw [hb, if_pos rfl] at this; omega
  | false =>
    rw [hb, if_neg (by simp)] at this
    refine ⟨badC_ok hb, ?_⟩
    cases ho : ordC l i with
    | true => rw [ho, if_pos rfl] at this; omega
    | false =>
      unfold ordC at ho
      simp only [decide_eq_false_iff_not] at ho
      constructor
      · intro h0; exact Classical.byContradiction fun hc => ho (.inl ⟨h0, hc⟩)
      · intro h0; exact Int.not_le.1 fun hc => ho (.inr ⟨h0, hc⟩)
theorem ch_asc {l : List (Int × Int)} (h : firstF (chEl l) l.length = 0) : ∀ i, i < l.length → (i : Int) + 1 ≤ (l.getD i (0, 0)).1
  | 0, hi => by have := (ch_ok h 0 hi).2.1 rfl; omega
  | i + 1, hi => by
    have ih := ch_asc h i (by omega)
    have := (ch_ok h (i + 1) hi).2.2 (by omega)
    rw [show i + 1 - 1 = i by omega] at this
    omega
theorem ch_len {l : List (Int × Int)} (h : firstF (chEl l) l.length = 0) : l.length ≤ 5000 := by
  rcases Nat.eq_zero_or_pos l.length with h0 | h0
  · omega
  · have h1 := ch_asc h (l.length - 1) (by omega)
    have h2 := (ch_ok h (l.length - 1) (by omega)).1
    omega
/-- The partial sums don't run over. -/
theorem chSum_bd {l : List (Int × Int)} {p : Nat} (h : firstF (chEl l) l.length = 0) (hf : ¬ chForm l p) : ∀ k, k < l.length → (0 ≤ chSum l p k ∧ chSum l p k ≤ 1000 * ((l.getD k (0, 0)).1 - 1)) ∧ (1 ≤ nextC l p k - (l.getD k (0, 0)).1 ∧ nextC l p k ≤ (p : Int) + 5001) ∧ (1 ≤ (nextC l p k - (l.getD k (0, 0)).1) * (l.getD k (0, 0)).2 ∧ (nextC l p k - (l.getD k (0, 0)).1) * (l.getD k (0, 0)).2 ≤ 1000 * (nextC l p k - (l.getD k (0, 0)).1)) := by
  have hstep : ∀ k, k < l.length → (1 ≤ nextC l p k - (l.getD k (0, 0)).1 ∧ nextC l p k ≤ (p : Int) + 5001) ∧ (1 ≤ (nextC l p k - (l.getD k (0, 0)).1) * (l.getD k (0, 0)).2 ∧ (nextC l p k - (l.getD k (0, 0)).1) * (l.getD k (0, 0)).2 ≤ 1000 * (nextC l p k - (l.getD k (0, 0)).1)) := by
    intro k hk
    have h1 := (ch_ok h k hk).1
    have h2 : 1 ≤ nextC l p k - (l.getD k (0, 0)).1 ∧ nextC l p k ≤ (p : Int) + 5001 := by
      unfold nextC
      split
      · rename_i h3
        have h4 := (ch_ok h (k + 1) h3).2.2 (by omega)
        have h5 := (ch_ok h (k + 1) h3).1
        rw [show k + 1 - 1 = k by omega] at h4
        omega
      · rename_i h3
        have h4 : ¬ ((p : Int) < (l.getD (l.length - 1) (0, 0)).1) := fun hc => hf (.inr ⟨by omega, hc⟩)
        rw [show l.length - 1 = k by omega] at h4
        omega
    refine ⟨h2, ?_⟩
    generalize nextC l p k - (l.getD k (0, 0)).1 = d at *
    have h6 : d * 1 ≤ d * (l.getD k (0, 0)).2 := Int.mul_le_mul_of_nonneg_left (by omega) (by omega)
    have h7 : d * (l.getD k (0, 0)).2 ≤ d * 1000 := Int.mul_le_mul_of_nonneg_left (by omega) (by omega)
    omega
  intro k
  induction k with
  | zero =>
    intro hk
    have := (ch_ok h 0 hk).2.1 rfl
    exact ⟨by rw [chSum]; omega, hstep 0 hk⟩
  | succ k ih =>
    intro hk
    have ih := ih (by omega)
    refine ⟨?_, hstep _ hk⟩
    have h8 : nextC l p k = (l.getD (k + 1) (0, 0)).1 := by unfold nextC; rw [if_pos hk]
    rw [chSum]
    rw [h8] at ih ⊢
    omega
theorem tabF_start {t : Tab} (h : noT t.start = true) : tabF t = 1 := by unfold tabF; rw [if_pos h]
theorem tabF_steps {t : Tab} (h : noT t.start = false) (h1 : runsF 0 t.steps ≠ 0) : tabF t = runsF 0 t.steps := by unfold tabF; rw [if_neg (by rw [h]; simp), if_pos h1]
theorem tabF_large {t : Tab} (h : noT t.start = false) (h1 : runsF 0 t.steps = 0) (h2 : 5000 < cntA t.steps) : tabF t = 2 := by unfold tabF; rw [if_neg (by rw [h]; simp), if_neg (by omega), if_pos h2]
theorem tabF_shifts {t : Tab} (h : noT t.start = false) (h1 : runsF 0 t.steps = 0) (h2 : ¬ 5000 < cntA t.steps) (h3 : runsF (-1000000000) t.shifts ≠ 0) : tabF t = runsF (-1000000000) t.shifts := by unfold tabF; rw [if_neg (by rw [h]; simp), if_neg (by omega), if_neg h2, if_pos h3]
theorem tabF_two {t : Tab} (h : noT t.start = false) (h1 : runsF 0 t.steps = 0) (h2 : ¬ 5000 < cntA t.steps) (h3 : runsF (-1000000000) t.shifts = 0) : tabF t = tabF2 t := by unfold tabF; rw [if_neg (by rw [h]; simp), if_neg (by omega), if_neg h2, if_neg (by omega)]
theorem tabF2_form {t : Tab} (h : cntA t.shifts ≠ cntA t.steps ∨ szBad (cntA t.steps) t.sizes.length) : tabF2 t = 3 := by unfold tabF2; rw [if_pos h]
theorem tabF2_sizes {t : Tab} (h : ¬ (cntA t.shifts ≠ cntA t.steps ∨ szBad (cntA t.steps) t.sizes.length)) (h1 : firstF (szEl t.sizes) t.sizes.length ≠ 0) : tabF2 t = firstF (szEl t.sizes) t.sizes.length := by unfold tabF2; rw [if_neg h, if_pos h1]
theorem tabF2_keys {t : Tab} (h : ¬ (cntA t.shifts ≠ cntA t.steps ∨ szBad (cntA t.steps) t.sizes.length)) (h1 : firstF (szEl t.sizes) t.sizes.length = 0) (h2 : firstF (kyEl (cntA t.steps) t.keys) t.keys.length ≠ 0) : tabF2 t = firstF (kyEl (cntA t.steps) t.keys) t.keys.length := by unfold tabF2; rw [if_neg h, if_neg (by omega), if_pos h2]
theorem tabF2_three {t : Tab} (h : ¬ (cntA t.shifts ≠ cntA t.steps ∨ szBad (cntA t.steps) t.sizes.length)) (h1 : firstF (szEl t.sizes) t.sizes.length = 0) (h2 : firstF (kyEl (cntA t.steps) t.keys) t.keys.length = 0) : tabF2 t = tabF3 t := by unfold tabF2; rw [if_neg h, if_neg (by omega), if_neg (by omega)]
end Go.Proofs.YtoliplgadhdgbaaDoor
