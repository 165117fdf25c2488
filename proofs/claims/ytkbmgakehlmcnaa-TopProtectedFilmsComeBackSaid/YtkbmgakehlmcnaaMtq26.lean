/- Several texts in one: Walk: Compact (reference), given what compact makes. Conditions as stated; Plain: the table that compact makes. Conditions as stated; Walk: values (reference). Conditions as stated; Plain: what a table tells (Expand): its samples, where they lie, and the fault. Conditions as stated. -/
import Derived.Test.YtkbmgakehlmcnaaMtq23
import Derived.Test.YtkbmgakehlmcnaaMtq24
import Derived.Test.YtkbmgakehlmcnaaMtq25
import Derived.Test.YtkbmgakehlmcnaaMtq20
import Derived.Test.YtkbmgakehlmcnaaMtq21
namespace Go.Proofs.Ytkbmgakehlmcnaa
open Go.RowKit
def cqEl (ch : List Int) (i : Nat) : Int := if ch.getD i 0 < 1 ∨ 1000 < ch.getD i 0 then 1 else 0
def qlEl (pl : List Int) (i : Nat) : Int := if pl.getD i 0 < 0 ∨ 1000000 < pl.getD i 0 then 1 else 0
def sumI (ch : List Int) : Nat → Int
  | 0 => 0
  | k + 1 => sumI ch k + ch.getD k 0
def cmpF (l : List Smp) (ch pl : List Int) : Int :=
  if smpF l ≠ 0 then smpF l else if ch.length ≠ pl.length then 3 else if firstF (cqEl ch) ch.length ≠ 0 then 1 else if sumI ch ch.length ≠ (l.length : Int) then 3 else if firstF (qlEl pl) pl.length ≠ 0 then 1 else 0
def szK (l : List Smp) : Nat → List Int
  | 0 => []
  | k + 1 => szK l k ++ [(l.getD k dS).size]
theorem szK_len (l : List Smp) : ∀ k, (szK l k).length = k
  | 0 => rfl
  | k + 1 => by rw [szK, List.length_append, szK_len l k]; rfl
theorem szK_at (l : List Smp) {i : Nat} : ∀ k, i < k → (szK l k).getD i 0 = (l.getD i dS).size
  | 0, h => absurd h (Nat.not_lt_zero _)
  | k + 1, h => by
    have hk := szK_len l k
    rw [szK]
    rcases Nat.lt_or_ge i k with h1 | h1
    · rw [List.getD_eq_getElem?_getD, List.getElem?_append_left (by omega), ← List.getD_eq_getElem?_getD, szK_at l k h1]
    · obtain rfl : i = k := by omega
      rw [List.getD_eq_getElem?_getD, List.getElem?_append_right (by omega), hk]
      simp
def oneK (l : List Smp) : Nat → Bool
  | 0 => true
  | k + 1 => oneK l k && decide ((l.getD k dS).size = (l.getD 0 dS).size)
theorem oneK_iff (l : List Smp) : ∀ k, oneK l k = true ↔ ∀ i, i < k → (l.getD i dS).size = (l.getD 0 dS).size
  | 0 => ⟨fun _ i h => absurd h (Nat.not_lt_zero _), fun _ => rfl⟩
  | k + 1 => by
    rw [oneK, Bool.and_eq_true, decide_eq_true_iff, oneK_iff l k]
    constructor
    · intro h i hi
      rcases Nat.lt_or_ge i k with h1 | h1
      · exact h.1 i h1
      · obtain rfl : i = k := by omega
        exact h.2
    · intro h
      exact ⟨fun i hi => h i (by omega), h k (Nat.lt_succ_self k)⟩
def allK (l : List Smp) : Nat → Bool
  | 0 => true
  | k + 1 => allK l k && (l.getD k dS).key
theorem allK_iff (l : List Smp) : ∀ k, allK l k = true ↔ ∀ i, i < k → (l.getD i dS).key = true
  | 0 => ⟨fun _ i h => absurd h (Nat.not_lt_zero _), fun _ => rfl⟩
  | k + 1 => by
    rw [allK, Bool.and_eq_true, allK_iff l k]
    constructor
    · intro h i hi
      rcases Nat.lt_or_ge i k with h1 | h1
      · exact h.1 i h1
      · obtain rfl : i = k := by omega
        exact h.2
    · intro h
      exact ⟨fun i hi => h i (by omega), h k (Nat.lt_succ_self k)⟩
def cmpT (l : List Smp) (ch pl : List Int) : Tab :=
  ⟨if 0 < l.length then (l.getD 0 dS).time else 0, rowK Smp.step l l.length, rowK Smp.shift l l.length, if oneK l l.length = true then (szK l l.length).take 1 else szK l l.length,
    if allK l l.length = true then [] else keyK l l.length, allK l l.length, chK ch ch.length, pl⟩
theorem one_test (l : List Smp) {n : Nat} (h : 0 < n) : minK (szK l n) (n - 1) = maxK (szK l n) (n - 1) ↔ oneK l n = true := by
  rw [minmax_iff, oneK_iff]
  constructor
  · intro h1 i hi
    have := h1 i (by omega)
    rwa [szK_at l n hi, szK_at l n h] at this
  · intro h1 i hi
    rw [szK_at l n (by omega), szK_at l n h]
    exact h1 i (by omega)
theorem all_test (l : List Smp) (n : Nat) : (keyK l n).length < n ↔ allK l n = false := by
  have h1 := keyK_len l n
  have h2 := keyK_all l n
  have h3 := allK_iff l n
  cases h : allK l n with
  | true =>
    have := h2.2 (h3.1 h)
    constructor
    · intro h4; omega
    · intro h4; cases h4
  | false =>
    refine ⟨fun _ => rfl, fun _ => ?_⟩
    rcases Nat.lt_or_ge (keyK l n).length n with h4 | h4
    · exact h4
    · have := h3.2 (h2.1 (by omega))
      rw [h] at this; cases this
theorem chunks_few {l : List Smp} {ch pl : List Int} (h : cmpF l ch pl = 0) : l.length ≤ 5000 ∧ ch.length ≤ 5000 ∧ pl.length ≤ 5000 := by
  unfold cmpF at h
  by_cases h1 : smpF l ≠ 0
  · rw [if_pos h1] at h; exact absurd h h1
  rw [if_neg h1] at h
  by_cases h2 : ch.length ≠ pl.length
  · rw [if_pos h2] at h; omega
  rw [if_neg h2] at h
  by_cases h3 : firstF (cqEl ch) ch.length ≠ 0
  · rw [if_pos h3] at h; omega
  rw [if_neg h3] at h
  by_cases h4 : sumI ch ch.length ≠ (l.length : Int)
  · rw [if_pos h4] at h; omega
  have h5 := (smpF_zero (by omega : smpF l = 0)).1
  have key : ∀ k, k ≤ ch.length → (k : Int) ≤ sumI ch k := by
    intro k
    induction k with
    | zero => intro _; simp [sumI]
    | succ k ih =>
      intro hk
      have h6 := firstF_all (by omega : firstF (cqEl ch) ch.length = 0) k (by omega)
      unfold cqEl at h6
      have h7 : ¬ (ch.getD k 0 < 1 ∨ 1000 < ch.getD k 0) := fun hc => by rw [if_pos hc] at h6; omega
      have := ih (by omega)
      rw [sumI]; omega
  have := key ch.length (Nat.le_refl _)
  omega
def valsR (l : List (Int × Int)) : List Int := l.flatMap fun r => List.replicate r.1.toNat r.2
theorem valsR_take {l : List (Int × Int)} {k : Nat} (h : k < l.length) : valsR (l.take (k + 1)) = valsR (l.take k) ++ List.replicate (l.getD k (0, 0)).1.toNat (l.getD k (0, 0)).2 := by
  unfold valsR; rw [getD_take l k (0, 0) h, List.flatMap_append]; simp
end Go.Proofs.Ytkbmgakehlmcnaa
namespace Go.Proofs.Ytkbmgakehlmcnaa
def mapR {α : Type} (n : Nat) (f : Nat → α) : List α := (List.range n).map f
theorem mapR_len {α : Type} (n : Nat) (f : Nat → α) : (mapR n f).length = n := by simp [mapR]
theorem mapR_getD {α : Type} {n k : Nat} (f : Nat → α) (d : α) (h : k < n) : (mapR n f).getD k d = f k := by simp [mapR, List.getD, h]
theorem mapR_succ {α : Type} (n : Nat) (f : Nat → α) : mapR (n + 1) f = mapR n f ++ [f n] := by simp [mapR, List.range_succ]
theorem mapR_congr {α : Type} {n : Nat} {f g : Nat → α} (h : ∀ i, i < n → f i = g i) : mapR n f = mapR n g := by
  unfold mapR; exact List.map_congr_left (fun i hi => h i (List.mem_range.1 hi))
theorem mapR_set {α : Type} {n k : Nat} (f : Nat → α) (x : α) : (mapR n f).set k x = mapR n (fun i => if i = k then x else f i) := by
  apply List.ext_getElem (by simp [mapR])
  intro i h1 h2
  rw [List.getElem_set]
  by_cases h : k = i
  · subst h; simp [mapR]
  · rw [if_neg h]; simp only [mapR, List.getElem_map, List.getElem_range]; rw [if_neg (fun e => h e.symm)]
theorem valsR_len {least : Int} {l : List (Int × Int)} (h : runsF least l = 0) : ∀ k, k ≤ l.length → ((valsR (l.take k)).length : Int) = cntI l k
  | 0, _ => by simp [valsR, cntI]
  | k + 1, hk => by
    have ih := valsR_len h k (by omega)
    have h1 := runs_ok h k (by omega)
    rw [valsR_take (by omega), List.length_append, List.length_replicate, cntI]
    omega
theorem valsR_all {least : Int} {l : List (Int × Int)} (h : runsF least l = 0) : ((valsR l).length : Int) = cntA l := by
  have := valsR_len h l.length (Nat.le_refl _)
  rwa [List.take_length] at this
theorem valsR_split (l : List (Int × Int)) (k : Nat) : valsR l = valsR (l.take k) ++ valsR (l.drop k) := by
  unfold valsR; rw [← List.flatMap_append, List.take_append_drop]
theorem valsR_at {l : List (Int × Int)} {k j : Nat} (hk : k < l.length) (hj : (j : Int) < (l.getD k (0, 0)).1) : (valsR l).getD ((valsR (l.take k)).length + j) 0 = (l.getD k (0, 0)).2 ∧ (valsR (l.take k)).length + j < (valsR l).length := by
  have h1 := valsR_split l (k + 1)
  rw [valsR_take hk] at h1
  rw [h1]
  constructor
  · rw [List.getD_eq_getElem?_getD, List.append_assoc, List.getElem?_append_right (by omega), Nat.add_sub_cancel_left, List.getElem?_append_left (by rw [List.length_replicate]; omega), List.getElem?_replicate, if_pos (by omega)]
    rfl
  · rw [List.length_append, List.length_append, List.length_replicate]; omega
theorem valsR_bd {least : Int} {l : List (Int × Int)} (h : runsF least l = 0) (h0 : least ≤ 0) (i : Nat) : least ≤ (valsR l).getD i 0 ∧ (valsR l).getD i 0 ≤ 1000000000 := by
  by_cases hi : i < (valsR l).length
  · have hm : (valsR l).getD i 0 ∈ valsR l := by
      rw [List.getD_eq_getElem?_getD, List.getElem?_eq_getElem hi]; exact List.getElem_mem hi
    unfold valsR at hm
    obtain ⟨r, hr, hx⟩ := List.mem_flatMap.1 hm
    obtain ⟨k, hk, he⟩ := List.getElem_of_mem hr
    have h2 := runs_ok h k hk
    have h3 : l.getD k (0, 0) = r := by rw [List.getD_eq_getElem?_getD, List.getElem?_eq_getElem hk]; exact he
    rw [h3] at h2
    have h4 : (valsR l).getD i 0 = r.2 := (List.mem_replicate.1 hx).2
    rw [h4]; omega
  · rw [List.getD_eq_getElem?_getD, List.getElem?_eq_none (by omega)]
    show least ≤ 0 ∧ (0 : Int) ≤ _
    omega
def exT (t : Tab) : Nat → Int
  | 0 => t.start
  | i + 1 => exT t i + (valsR t.steps).getD i 0
theorem exT_bd {t : Tab} (h : runsF 0 t.steps = 0) : ∀ i : Nat, t.start ≤ exT t i ∧ exT t i ≤ t.start + 1000000000 * (i : Int)
  | 0 => by simp [exT]
  | i + 1 => by
    have ih := exT_bd h i
    have := valsR_bd h (Int.le_refl _) i
    rw [exT]; omega
def exSz (t : Tab) (i : Nat) : Int := t.sizes.getD (min i (t.sizes.length - 1)) 0
theorem exSz_bd {t : Tab} (h : firstF (szEl t.sizes) t.sizes.length = 0) (i : Nat) : 0 ≤ exSz t i ∧ exSz t i ≤ 100000 := by
  unfold exSz
  generalize min i (t.sizes.length - 1) = k
  by_cases hk : k < t.sizes.length
  · have := firstF_all h k hk
    unfold szEl at this
    by_cases h1 : t.sizes.getD k 0 < 0 ∨ 100000 < t.sizes.getD k 0
    · rw [if_pos h1] at this; omega
    · omega
  · rw [List.getD_eq_getElem?_getD, List.getElem?_eq_none (by omega)]
    show (0 : Int) ≤ 0 ∧ (0 : Int) ≤ _
    omega
def exSt (t : Tab) (i : Nat) : Int := (valsR t.steps).getD i 0
def exSh (t : Tab) (i : Nat) : Int := (valsR t.shifts).getD i 0
def exKy (t : Tab) (k i : Nat) : Bool := t.nok || (t.keys.take k).contains ((i : Int) + 1)
def exM (t : Tab) (p q k i : Nat) : Smp := ⟨exT t i, exSt t i, if i < p then exSh t i else 0, if i < q then exSz t i else 0, exKy t k i⟩
def exN (t : Tab) : Nat := (valsR t.steps).length
def exS (t : Tab) : List Smp := mapR (exN t) (exM t (exN t) (exN t) t.keys.length)
theorem exS_at {t : Tab} {i : Nat} (h : i < exN t) : (exS t).getD i dS = ⟨exT t i, exSt t i, exSh t i, exSz t i, exKy t t.keys.length i⟩ := by
  unfold exS; rw [mapR_getD _ _ h]; unfold exM; rw [if_pos h, if_pos h]
theorem exM_zero (t : Tab) (i : Nat) : exM t 0 0 0 i = ⟨exT t i, exSt t i, 0, 0, t.nok⟩ := by
  unfold exM exKy; simp
theorem exM_shift {t : Tab} {n p : Nat} (_hp : p < n) : (mapR n (exM t p 0 0)).set p { exM t p 0 0 p with shift := exSh t p } = mapR n (exM t (p + 1) 0 0) := by
  rw [mapR_set]
  apply mapR_congr
  intro i _
  by_cases h : i = p
  · subst h; rw [if_pos rfl]; unfold exM; simp
  · rw [if_neg h]; unfold exM
    by_cases h2 : i < p
    · simp only [if_pos h2, if_pos (show i < p + 1 by omega)]
    · simp only [if_neg h2, if_neg (show ¬ i < p + 1 by omega)]
theorem exM_size {t : Tab} {n q : Nat} (_hq : q < n) : (mapR n (exM t n q 0)).set q { exM t n q 0 q with size := exSz t q } = mapR n (exM t n (q + 1) 0) := by
  rw [mapR_set]
  apply mapR_congr
  intro i _
  by_cases h : i = q
  · subst h; rw [if_pos rfl]; unfold exM; simp
  · rw [if_neg h]; unfold exM
    by_cases h2 : i < q
    · simp only [if_pos h2, if_pos (show i < q + 1 by omega)]
    · simp only [if_neg h2, if_neg (show ¬ i < q + 1 by omega)]
theorem exKy_succ {t : Tab} {k i : Nat} (hk : k < t.keys.length) : exKy t (k + 1) i = (exKy t k i || decide (t.keys.getD k 0 = (i : Int) + 1)) := by
  unfold exKy
  rw [getD_take t.keys k 0 hk, List.contains_append, ← Bool.or_assoc]
  congr 1
  simp only [List.contains_cons, List.contains_nil, Bool.or_false]
  by_cases h : t.keys.getD k 0 = (i : Int) + 1
  · rw [h]; simp
  · rw [decide_eq_false h, beq_eq_false_iff_ne]; exact fun e => h e.symm
theorem exM_key {t : Tab} {n k m : Nat} (hk : k < t.keys.length) (hm : t.keys.getD k 0 = (m : Int) + 1) : (mapR n (exM t n n k)).set m { exM t n n k m with key := true } = mapR n (exM t n n (k + 1)) := by
  rw [mapR_set]
  apply mapR_congr
  intro i _
  by_cases h : i = m
  · subst h; rw [if_pos rfl]; unfold exM; rw [exKy_succ hk, hm]; simp
  · rw [if_neg h]; unfold exM; rw [exKy_succ hk, hm]
    have : decide ((m : Int) + 1 = (i : Int) + 1) = false := decide_eq_false (by omega)
    rw [this, Bool.or_false]
def szP (t : Tab) : Nat → Int
  | 0 => 0
  | i + 1 => szP t i + exSz t i
theorem szP_bd {t : Tab} (h : firstF (szEl t.sizes) t.sizes.length = 0) (s : Nat) : ∀ j : Nat, 0 ≤ szP t (s + j) - szP t s ∧ szP t (s + j) - szP t s ≤ 100000 * (j : Int)
  | 0 => by simp
  | j + 1 => by
    have ih := szP_bd h s j
    have := exSz_bd h (s + j)
    rw [show s + (j + 1) = s + j + 1 by omega, szP]; omega
def spI (t : Tab) (p : Int) (s : Nat) : Nat → List (Int × Int)
  | 0 => []
  | j + 1 => spI t p s j ++ [(p + (szP t (s + j) - szP t s), exSz t (s + j))]
theorem spI_len (t : Tab) (p : Int) (s : Nat) : ∀ j, (spI t p s j).length = j
  | 0 => rfl
  | j + 1 => by rw [spI, List.length_append, spI_len t p s j]; rfl
def spC (t : Tab) : Nat → List (Int × Int)
  | 0 => []
  | c + 1 => spC t c ++ spI t (t.places.getD c 0) (spC t c).length (smO t.chunks ((c : Int) + 1)).toNat
theorem spC_len {t : Tab} (h : firstF (chEl t.chunks) t.chunks.length = 0) : ∀ c, ((spC t c).length : Int) = allS t.chunks c
  | 0 => rfl
  | c + 1 => by
    have ih := spC_len h c
    have := smO_bd h ((c : Int) + 1)
    rw [spC, List.length_append, spI_len, allS]; omega
theorem allS_mono {l : List (Int × Int)} (h : firstF (chEl l) l.length = 0) (a : Nat) : ∀ m : Nat, allS l a ≤ allS l (a + m)
  | 0 => Int.le_refl _
  | m + 1 => by
    have ih := allS_mono h a m
    have := smO_bd h (((a + m : Nat) : Int) + 1)
    rw [show a + (m + 1) = a + m + 1 by omega, allS]; omega
def bigS (s : Int × Int) : Bool := decide (1000000 < s.1 + s.2)
theorem any_none {l : List (Int × Int)} (h : ∀ i, i < l.length → bigS (l.getD i (0, 0)) = false) : l.any bigS = false := by
  rw [List.any_eq_false]
  intro x hx
  obtain ⟨k, hk, he⟩ := List.getElem_of_mem hx
  have := h k hk
  rw [List.getD_eq_getElem?_getD, List.getElem?_eq_getElem hk] at this
  rw [← he]
  simpa using this
theorem any_some {l : List (Int × Int)} {i : Nat} (hi : i < l.length) (h : bigS (l.getD i (0, 0)) = true) : l.any bigS = true := by
  rw [List.any_eq_true]
  refine ⟨l[i], List.getElem_mem hi, ?_⟩
  rwa [List.getD_eq_getElem?_getD, List.getElem?_eq_getElem hi] at h
def spS (t : Tab) : List (Int × Int) := spC t t.places.length
def expF (t : Tab) : Int := if tabF t ≠ 0 then tabF t else if (spS t).any bigS = true then 1 else 0
theorem exN_eq {t : Tab} (h : TabR1 t) : ((exN t : Nat) : Int) = cntA t.steps := valsR_all h.steps
theorem exSh_len {t : Tab} (h : TabR1 t) : (valsR t.shifts).length = exN t := by
  have h1 := valsR_all h.shifts
  have h2 := exN_eq h
  have h3 := h.same
  omega
theorem spS_len {t : Tab} (h : TabR1 t) : (spS t).length = exN t := by
  have h1 := spC_len h.chunks t.places.length
  rw [allS_sum h.chunks h.form, h.sum, ← exN_eq h] at h1
  unfold spS; omega
theorem sp_lt {t : Tab} (h : TabR1 t) {c j : Nat} (hc : c < t.places.length) (hj : (j : Int) < smO t.chunks ((c : Int) + 1)) : (spC t c).length + j < exN t := by
  have h1 := spC_len h.chunks c
  have h2 := allS_mono h.chunks (c + 1) (t.places.length - (c + 1))
  rw [show c + 1 + (t.places.length - (c + 1)) = t.places.length by omega, allS_sum h.chunks h.form, h.sum, ← exN_eq h, allS] at h2
  omega
theorem sz_many {t : Tab} (h : TabR1 t) {i : Nat} (hi : i < exN t) : t.sizes.length = 1 ∨ t.sizes.length = exN t := by
  have h1 := h.sz
  have h2 := exN_eq h
  unfold szBad at h1
  omega
end Go.Proofs.Ytkbmgakehlmcnaa
