/- Several texts in one: A right table has few elements. Plain; Plain: what a table tells (Expand): its samples, where they lie, and the fault. Conditions as stated; Chunks of tracks laid one after another, in plain words. Plain but for the words of tracks; make of a slice: its run equation, and that it is an own row of elements alike. Conditions as stated; The memory in which chunks are laid: an array of rows of numbers, rows of numbers beside it, a row of bytes. No condition. -/
import Derived.Test.YtlonhkjplijlcaaMrg07
import Derived.Test.YtlonhkjplijlcaaMrg02
import Derived.Test.YtlonhkjplijlcaaMrg00
import Derived.Laws.OwnMore
import Derived.Laws.MakeOwn
import Derived.Test.YtlonhkjplijlcaaMrg03
namespace Go.Proofs.Ytlonhkjplijlcaa
/-- What is known of a right table. -/
structure TabR1 (t : Tab) : Prop where
  start : noT t.start = false
  steps : runsF 0 t.steps = 0
  few : cntA t.steps ≤ 5000
  shifts : runsF (-1000000000) t.shifts = 0
  same : cntA t.shifts = cntA t.steps
  sz : ¬ szBad (cntA t.steps) t.sizes.length
  sizes : firstF (szEl t.sizes) t.sizes.length = 0
  keys : firstF (kyEl (cntA t.steps) t.keys) t.keys.length = 0
  chunks : firstF (chEl t.chunks) t.chunks.length = 0
  form : ¬ chForm t.chunks t.places.length
  sum : chSum t.chunks t.places.length t.chunks.length = cntA t.steps
  places : firstF (plEl t.places) t.places.length = 0
  ends : noT (endI t.start t.steps t.steps.length) = false
theorem tab_right {t : Tab} (h : tabF t = 0) : TabR1 t := by
  have h1 : noT t.start = false := by
    cases hc : noT t.start with
    | false => rfl
    | true => rw [tabF_start hc] at h; omega
  have h2 : runsF 0 t.steps = 0 := Classical.byContradiction fun hc => by rw [tabF_steps h1 hc] at h; exact hc h
  have h3 : ¬ 5000 < cntA t.steps := fun hc => by rw [tabF_large h1 h2 hc] at h; omega
  have h4 : runsF (-1000000000) t.shifts = 0 := Classical.byContradiction fun hc => by rw [tabF_shifts h1 h2 h3 hc] at h; exact hc h
  rw [tabF_two h1 h2 h3 h4] at h
  have h5 : ¬ (cntA t.shifts ≠ cntA t.steps ∨ szBad (cntA t.steps) t.sizes.length) := fun hc => by rw [tabF2_form hc] at h; omega
  have h6 : firstF (szEl t.sizes) t.sizes.length = 0 := Classical.byContradiction fun hc => by rw [tabF2_sizes h5 hc] at h; exact hc h
  have h7 : firstF (kyEl (cntA t.steps) t.keys) t.keys.length = 0 := Classical.byContradiction fun hc => by rw [tabF2_keys h5 h6 hc] at h; exact hc h
  rw [tabF2_three h5 h6 h7] at h
  unfold tabF3 at h
  have h8 : chunksF (cntA t.steps) t.chunks t.places = 0 := Classical.byContradiction fun hc => by rw [if_pos hc] at h; exact hc h
  rw [if_neg (by omega)] at h
  have h9 : noT (endI t.start t.steps t.steps.length) = false := by
    cases hc : noT (endI t.start t.steps t.steps.length) with
    | false => rfl
    | true => rw [hc, if_pos rfl] at h; omega
  unfold chunksF at h8
  have g1 : firstF (chEl t.chunks) t.chunks.length = 0 := Classical.byContradiction fun hc => by rw [if_pos hc] at h8; exact hc h8
  rw [if_neg (by omega)] at h8
  have g2 : ¬ chForm t.chunks t.places.length := fun hc => by rw [if_pos hc] at h8; omega
  rw [if_neg g2] at h8
  have g3 : chSum t.chunks t.places.length t.chunks.length = cntA t.steps := Classical.byContradiction fun hc => by rw [if_pos hc] at h8; omega
  rw [if_neg (by omega)] at h8
  exact ⟨h1, h2, by omega, h4, by omega, fun hc => h5 (.inr hc), h6, h7, g1, g2, g3, h8, h9⟩
theorem key_at {n : Int} {l : List Int} (h : firstF (kyEl n l) l.length = 0) {i : Nat} (hi : i < l.length) : 1 ≤ l.getD i 0 ∧ l.getD i 0 ≤ n ∧ (0 < i → l.getD (i - 1) 0 < l.getD i 0) := by
  have := firstF_all h i hi
  unfold kyEl at this
  by_cases h1 : l.getD i 0 < 1 ∨ n < l.getD i 0
  · rw [if_pos h1] at this; omega
  · rw [if_neg h1] at this
    by_cases h2 : 0 < i ∧ l.getD i 0 ≤ l.getD (i - 1) 0
    · rw [if_pos h2] at this; omega
    · exact ⟨by omega, by omega, fun h3 => by omega⟩
theorem key_asc {n : Int} {l : List Int} (h : firstF (kyEl n l) l.length = 0) : ∀ i, i < l.length → (i : Int) + 1 ≤ l.getD i 0
  | 0, hi => by have := (key_at h hi).1; omega
  | i + 1, hi => by
    have ih := key_asc h i (by omega)
    have := (key_at h hi).2.2 (by omega)
    rw [show i + 1 - 1 = i by omega] at this
    omega
theorem smO_pos {l : List (Int × Int)} (h : firstF (chEl l) l.length = 0) (h0 : 0 < l.length) {c : Int} (hc : 1 ≤ c) : 1 ≤ smO l c := by
  have key : ∀ k, 0 < k → k ≤ l.length → 1 ≤ smOK l c k := by
    intro k
    induction k with
    | zero => intro h1; omega
    | succ k ih =>
      intro _ h2
      have h3 := ch_ok h k (by omega)
      rw [smOK]
      split
      · exact h3.1.2.2.1
      · rename_i h4
        rcases Nat.eq_zero_or_pos k with h5 | h5
        · have := h3.2.1 h5; omega
        · exact ih h5 (by omega)
  exact key _ h0 (Nat.le_refl _)
theorem allS_ge {l : List (Int × Int)} (h : firstF (chEl l) l.length = 0) (h0 : 0 < l.length) : ∀ i : Nat, (i : Int) ≤ allS l i
  | 0 => by simp [allS]
  | i + 1 => by
    have ih := allS_ge h h0 i
    have := smO_pos h h0 (c := (i : Int) + 1) (by omega)
    rw [allS]; omega
theorem tab_few {t : Tab} (h : TabR1 t) : t.steps.length ≤ 5000 ∧ t.shifts.length ≤ 5000 ∧ t.sizes.length ≤ 5000 ∧ t.keys.length ≤ 5000 ∧ t.chunks.length ≤ 5000 ∧ t.places.length ≤ 5000 := by
  have hf := h.few
  have h1 : (t.steps.length : Int) ≤ cntA t.steps := (cntI_bd h.steps _ (Nat.le_refl _)).1
  have h2 : (t.shifts.length : Int) ≤ cntA t.shifts := (cntI_bd h.shifts _ (Nat.le_refl _)).1
  have hs := h.same
  refine ⟨by omega, by omega, ?_, ?_, ch_len h.chunks, ?_⟩
  · have := h.sz
    unfold szBad at this
    omega
  · rcases Nat.eq_zero_or_pos t.keys.length with h0 | h0
    · omega
    · have h3 := key_asc h.keys (t.keys.length - 1) (by omega)
      have h4 := (key_at h.keys (i := t.keys.length - 1) (by omega)).2.1
      omega
  · rcases Nat.eq_zero_or_pos t.places.length with h0 | h0
    · omega
    · have h3 : 0 < t.chunks.length := Nat.pos_of_ne_zero fun hc => h.form (.inl ⟨h0, hc⟩)
      have h4 := allS_ge h.chunks h3 t.places.length
      have h5 := allS_sum h.chunks h.form
      have h6 := h.sum
      omega
end Go.Proofs.Ytlonhkjplijlcaa
namespace Go.Proofs.Ytlonhkjplijlcaa
/-- The list of the first values of a rule. -/
def mapR {α : Type} (n : Nat) (f : Nat → α) : List α := (List.range n).map f
theorem mapR_len {α : Type} (n : Nat) (f : Nat → α) : (mapR n f).length = n := by simp [mapR]
theorem mapR_getD {α : Type} {n k : Nat} (f : Nat → α) (d : α) (h : k < n) : (mapR n f).getD k d = f k := by simp [mapR, List.getD, h]
theorem mapR_succ {α : Type} (n : Nat) (f : Nat → α) : mapR (n + 1) f = mapR n f ++ [f n] := by simp [mapR, List.range_succ]
theorem mapR_congr {α : Type} {n : Nat} {f g : Nat → α} (h : ∀ i, i < n → f i = g i) : mapR n f = mapR n g := by
  unfold mapR; exact List.map_congr_left (fun i hi => h i (List.mem_range.1 hi))
theorem mapR_set {α : Type} {n k : Nat} (f : Nat → α) (x : α) : (mapR n f).set k x = mapR n (fun i => if i = k then x else f i) := by
  apply List.ext_getElem (by simp [mapR])
  intro i h1 h2
  rw [List.getElem_set]
  by_cases h : k = i
  · subst h; simp [mapR]
  · rw [if_neg h]; simp only [mapR, List.getElem_map, List.getElem_range]; rw [if_neg (fun e => h e.symm)]
theorem valsR_len {least : Int} {l : List (Int × Int)} (h : runsF least l = 0) : ∀ k, k ≤ l.length → ((valsR (l.take k)).length : Int) = cntI l k
  | 0, _ => by simp [valsR, cntI]
  | k + 1, hk => by
    have ih := valsR_len h k (by omega)
    have h1 := runs_ok h k (by omega)
    rw [valsR_take (by omega), List.length_append, List.length_replicate, cntI]
    omega
theorem valsR_all {least : Int} {l : List (Int × Int)} (h : runsF least l = 0) : ((valsR l).length : Int) = cntA l := by
  have := valsR_len h l.length (Nat.le_refl _)
  rwa [List.take_length] at this
/-- How many numbers the runs from a place on have. -/
theorem valsR_split (l : List (Int × Int)) (k : Nat) : valsR l = valsR (l.take k) ++ valsR (l.drop k) := by
  unfold valsR; rw [← List.flatMap_append, List.take_append_drop]
theorem valsR_at {l : List (Int × Int)} {k j : Nat} (hk : k < l.length) (hj : (j : Int) < (l.getD k (0, 0)).1) : (valsR l).getD ((valsR (l.take k)).length + j) 0 = (l.getD k (0, 0)).2 ∧ (valsR (l.take k)).length + j < (valsR l).length := by
  have h1 := valsR_split l (k + 1)
  rw [valsR_take hk] at h1
  rw [h1]
  constructor
  · rw [List.getD_eq_getElem?_getD, List.append_assoc, List.getElem?_append_right (by omega), Nat.add_sub_cancel_left, List.getElem?_append_left (by rw [List.length_replicate]; omega), List.getElem?_replicate, if_pos (by omega)]
    rfl
  · rw [List.length_append, List.length_append, List.length_replicate]; omega
theorem valsR_bd {least : Int} {l : List (Int × Int)} (h : runsF least l = 0) (h0 : least ≤ 0) (i : Nat) : least ≤ (valsR l).getD i 0 ∧ (valsR l).getD i 0 ≤ 1000000000 := by
  by_cases hi : i < (valsR l).length
  · have hm : (valsR l).getD i 0 ∈ valsR l := by
      rw [List.getD_eq_getElem?_getD, List.getElem?_eq_getElem hi]; exact List.getElem_mem hi
    unfold valsR at hm
    obtain ⟨r, hr, hx⟩ := List.mem_flatMap.1 hm
    obtain ⟨k, hk, he⟩ := List.getElem_of_mem hr
    have h2 := runs_ok h k hk
    have h3 : l.getD k (0, 0) = r := by rw [List.getD_eq_getElem?_getD, List.getElem?_eq_getElem hk]; exact he
    rw [h3] at h2
    have h4 : (valsR l).getD i 0 = r.2 := (List.mem_replicate.1 hx).2
    rw [h4]; omega
  · rw [List.getD_eq_getElem?_getD, List.getElem?_eq_none (by omega)]
    show least ≤ 0 ∧ (0 : Int) ≤ _
    omega
/-- The time of the i-th sample. -/
def exT (t : Tab) : Nat → Int
  | 0 => t.start
  | i + 1 => exT t i + (valsR t.steps).getD i 0
theorem exT_bd {t : Tab} (h : runsF 0 t.steps = 0) : ∀ i : Nat, t.start ≤ exT t i ∧ exT t i ≤ t.start + 1000000000 * (i : Int)
  | 0 => by simp [exT]
  | i + 1 => by
    have ih := exT_bd h i
    have := valsR_bd h (Int.le_refl _) i
    rw [exT]; omega
def exSz (t : Tab) (i : Nat) : Int := t.sizes.getD (min i (t.sizes.length - 1)) 0
theorem exSz_bd {t : Tab} (h : firstF (szEl t.sizes) t.sizes.length = 0) (i : Nat) : 0 ≤ exSz t i ∧ exSz t i ≤ 100000 := by
  unfold exSz
  generalize min i (t.sizes.length - 1) = k
  by_cases hk : k < t.sizes.length
  · have := firstF_all h k hk
    unfold szEl at this
    by_cases h1 : t.sizes.getD k 0 < 0 ∨ 100000 < t.sizes.getD k 0
    · rw [if_pos h1] at this; omega
    · omega
  · rw [List.getD_eq_getElem?_getD, List.getElem?_eq_none (by omega)]
    show (0 : Int) ≤ 0 ∧ (0 : Int) ≤ _
    omega
def exSt (t : Tab) (i : Nat) : Int := (valsR t.steps).getD i 0
def exSh (t : Tab) (i : Nat) : Int := (valsR t.shifts).getD i 0
/-- Is a sample among the first keys? -/
def exKy (t : Tab) (k i : Nat) : Bool := t.nok || (t.keys.take k).contains ((i : Int) + 1)
/-- The samples while they are made: with the shifts and sizes of the first ones, and some keys. -/
def exM (t : Tab) (p q k i : Nat) : Smp := ⟨exT t i, exSt t i, if i < p then exSh t i else 0, if i < q then exSz t i else 0, exKy t k i⟩
def exN (t : Tab) : Nat := (valsR t.steps).length
/-- The samples of a table. -/
def exS (t : Tab) : List Smp := mapR (exN t) (exM t (exN t) (exN t) t.keys.length)
theorem exS_at {t : Tab} {i : Nat} (h : i < exN t) : (exS t).getD i dS = ⟨exT t i, exSt t i, exSh t i, exSz t i, exKy t t.keys.length i⟩ := by
  unfold exS; rw [mapR_getD _ _ h]; unfold exM; rw [if_pos h, if_pos h]
theorem exM_zero (t : Tab) (i : Nat) : exM t 0 0 0 i = ⟨exT t i, exSt t i, 0, 0, t.nok⟩ := by
  unfold exM exKy; simp
theorem exM_shift {t : Tab} {n p : Nat} (_hp : p < n) : (mapR n (exM t p 0 0)).set p { exM t p 0 0 p with shift := exSh t p } = mapR n (exM t (p + 1) 0 0) := by
  rw [mapR_set]
  apply mapR_congr
  intro i _
  by_cases h : i = p
  · subst h; rw [if_pos rfl]; unfold exM; simp
  · rw [if_neg h]; unfold exM
    by_cases h2 : i < p
    · simp only [if_pos h2, if_pos (show i < p + 1 by omega)]
    · simp only [if_neg h2, if_neg (show ¬ i < p + 1 by omega)]
theorem exM_size {t : Tab} {n q : Nat} (_hq : q < n) : (mapR n (exM t n q 0)).set q { exM t n q 0 q with size := exSz t q } = mapR n (exM t n (q + 1) 0) := by
  rw [mapR_set]
  apply mapR_congr
  intro i _
  by_cases h : i = q
  · subst h; rw [if_pos rfl]; unfold exM; simp
  · rw [if_neg h]; unfold exM
    by_cases h2 : i < q
    · simp only [if_pos h2, if_pos (show i < q + 1 by omega)]
    · simp only [if_neg h2, if_neg (show ¬ i < q + 1 by omega)]
theorem exKy_succ {t : Tab} {k i : Nat} (hk : k < t.keys.length) : exKy t (k + 1) i = (exKy t k i || decide (t.keys.getD k 0 = (i : Int) + 1)) := by
  unfold exKy
  rw [getD_take t.keys k 0 hk, List.contains_append, ← Bool.or_assoc]
  congr 1
  simp only [List.contains_cons, List.contains_nil, Bool.or_false]
  by_cases h : t.keys.getD k 0 = (i : Int) + 1
  · rw [h]; simp
  · rw [decide_eq_false h, beq_eq_false_iff_ne]; exact fun e => h e.symm
theorem exM_key {t : Tab} {n k m : Nat} (hk : k < t.keys.length) (hm : t.keys.getD k 0 = (m : Int) + 1) : (mapR n (exM t n n k)).set m { exM t n n k m with key := true } = mapR n (exM t n n (k + 1)) := by
  rw [mapR_set]
  apply mapR_congr
  intro i _
  by_cases h : i = m
  · subst h; rw [if_pos rfl]; unfold exM; rw [exKy_succ hk, hm]; simp
  · rw [if_neg h]; unfold exM; rw [exKy_succ hk, hm]
    have : decide ((m : Int) + 1 = (i : Int) + 1) = false := decide_eq_false (by omega)
    rw [this, Bool.or_false]
/-- The sizes of the first samples. -/
def szP (t : Tab) : Nat → Int
  | 0 => 0
  | i + 1 => szP t i + exSz t i
theorem szP_bd {t : Tab} (h : firstF (szEl t.sizes) t.sizes.length = 0) (s : Nat) : ∀ j : Nat, 0 ≤ szP t (s + j) - szP t s ∧ szP t (s + j) - szP t s ≤ 100000 * (j : Int)
  | 0 => by simp
  | j + 1 => by
    have ih := szP_bd h s j
    have := exSz_bd h (s + j)
    rw [show s + (j + 1) = s + j + 1 by omega, szP]; omega
/-- Where the first samples of a chunk lie, that begins with sample s at a place. -/
def spI (t : Tab) (p : Int) (s : Nat) : Nat → List (Int × Int)
  | 0 => []
  | j + 1 => spI t p s j ++ [(p + (szP t (s + j) - szP t s), exSz t (s + j))]
theorem spI_len (t : Tab) (p : Int) (s : Nat) : ∀ j, (spI t p s j).length = j
  | 0 => rfl
  | j + 1 => by rw [spI, List.length_append, spI_len t p s j]; rfl
/-- Where the samples of the first chunks lie. -/
def spC (t : Tab) : Nat → List (Int × Int)
  | 0 => []
  | c + 1 => spC t c ++ spI t (t.places.getD c 0) (spC t c).length (smO t.chunks ((c : Int) + 1)).toNat
theorem spC_len {t : Tab} (h : firstF (chEl t.chunks) t.chunks.length = 0) : ∀ c, ((spC t c).length : Int) = allS t.chunks c
  | 0 => rfl
  | c + 1 => by
    have ih := spC_len h c
    have := smO_bd h ((c : Int) + 1)
    rw [spC, List.length_append, spI_len, allS]; omega
theorem allS_mono {l : List (Int × Int)} (h : firstF (chEl l) l.length = 0) (a : Nat) : ∀ m : Nat, allS l a ≤ allS l (a + m)
  | 0 => Int.le_refl _
  | m + 1 => by
    have ih := allS_mono h a m
    have := smO_bd h (((a + m : Nat) : Int) + 1)
    rw [show a + (m + 1) = a + m + 1 by omega, allS]; omega
theorem spC_pre (t : Tab) (a : Nat) : ∀ m : Nat, ∃ r, spC t (a + m) = spC t a ++ r
  | 0 => ⟨[], by simp⟩
  | m + 1 => by
    obtain ⟨r, hr⟩ := spC_pre t a m
    exact ⟨_, by rw [show a + (m + 1) = a + m + 1 by omega, spC, hr, List.append_assoc]⟩
theorem spI_pre (t : Tab) (p : Int) (s a : Nat) : ∀ m : Nat, ∃ r, spI t p s (a + m) = spI t p s a ++ r
  | 0 => ⟨[], by simp⟩
  | m + 1 => by
    obtain ⟨r, hr⟩ := spI_pre t p s a m
    exact ⟨_, by rw [show a + (m + 1) = a + m + 1 by omega, spI, hr, List.append_assoc]⟩
/-- A sample that ends behind the longest file. -/
def bigS (s : Int × Int) : Bool := decide (1000000 < s.1 + s.2)
/-- One that is met on the way is among all. -/
theorem sp_met {t : Tab} {c j : Nat} (hc : c < t.places.length) (hj : (j : Int) < smO t.chunks ((c : Int) + 1)) (hb : (spC t c ++ spI t (t.places.getD c 0) (spC t c).length (j + 1)).any bigS = true) : (spC t t.places.length).any bigS = true := by
  obtain ⟨r, hr⟩ := spC_pre t (c + 1) (t.places.length - (c + 1))
  rw [show c + 1 + (t.places.length - (c + 1)) = t.places.length by omega] at hr
  obtain ⟨q, hq⟩ := spI_pre t (t.places.getD c 0) (spC t c).length (j + 1) ((smO t.chunks ((c : Int) + 1)).toNat - (j + 1))
  rw [show j + 1 + ((smO t.chunks ((c : Int) + 1)).toNat - (j + 1)) = (smO t.chunks ((c : Int) + 1)).toNat by omega] at hq
  rw [hr, spC, hq, ← List.append_assoc, List.any_append, List.any_append, hb]
  rfl
theorem any_none {l : List (Int × Int)} (h : ∀ i, i < l.length → bigS (l.getD i (0, 0)) = false) : l.any bigS = false := by
  rw [List.any_eq_false]
  intro x hx
  obtain ⟨k, hk, he⟩ := List.getElem_of_mem hx
  have := h k hk
  rw [List.getD_eq_getElem?_getD, List.getElem?_eq_getElem hk] at this
  rw [← he]
  simpa using this
theorem any_some {l : List (Int × Int)} {i : Nat} (hi : i < l.length) (h : bigS (l.getD i (0, 0)) = true) : l.any bigS = true := by
  rw [List.any_eq_true]
  refine ⟨l[i], List.getElem_mem hi, ?_⟩
  rwa [List.getD_eq_getElem?_getD, List.getElem?_eq_getElem hi] at h
def spS (t : Tab) : List (Int × Int) := spC t t.places.length
/-- The fault of Expand. -/
def expF (t : Tab) : Int := if tabF t ≠ 0 then tabF t else if (spS t).any bigS = true then 1 else 0
theorem exN_eq {t : Tab} (h : TabR1 t) : ((exN t : Nat) : Int) = cntA t.steps := valsR_all h.steps
theorem exSh_len {t : Tab} (h : TabR1 t) : (valsR t.shifts).length = exN t := by
  have h1 := valsR_all h.shifts
  have h2 := exN_eq h
  have h3 := h.same
  omega
theorem spS_len {t : Tab} (h : TabR1 t) : (spS t).length = exN t := by
  have h1 := spC_len h.chunks t.places.length
  rw [allS_sum h.chunks h.form, h.sum, ← exN_eq h] at h1
  unfold spS; omega
/-- Where a sample of a chunk stands. -/
theorem sp_lt {t : Tab} (h : TabR1 t) {c j : Nat} (hc : c < t.places.length) (hj : (j : Int) < smO t.chunks ((c : Int) + 1)) : (spC t c).length + j < exN t := by
  have h1 := spC_len h.chunks c
  have h2 := allS_mono h.chunks (c + 1) (t.places.length - (c + 1))
  rw [show c + 1 + (t.places.length - (c + 1)) = t.places.length by omega, allS_sum h.chunks h.form, h.sum, ← exN_eq h, allS] at h2
  omega
/-- The size of a sample, where each one has its own, or all have one. -/
theorem exSz_one {t : Tab} (h : t.sizes.length = 1) (i : Nat) : exSz t i = t.sizes.getD 0 0 := by unfold exSz; rw [h]; simp
theorem exSz_each {t : Tab} {i : Nat} (h : i < t.sizes.length) : exSz t i = t.sizes.getD i 0 := by unfold exSz; rw [Nat.min_eq_left (by omega)]
theorem sz_many {t : Tab} (h : TabR1 t) {i : Nat} (hi : i < exN t) : t.sizes.length = 1 ∨ t.sizes.length = exN t := by
  have h1 := h.sz
  have h2 := exN_eq h
  unfold szBad at h1
  omega
end Go.Proofs.Ytlonhkjplijlcaa
namespace Go.Proofs.Ytlonhkjplijlcaa
/-- Sizes that are right. -/
def szOk (l : List Smp) : Prop := ∀ k, k < l.length → 0 ≤ (l.getD k dS).size ∧ (l.getD k dS).size ≤ 100000
theorem szOk_of {l : List Smp} (h : smpF l = 0) : szOk l := fun k hk => (badS_ok (smpEl_zero ((smpF_zero h).2.1 k hk)).1).2.2.2
/-- Places of chunks of each track, and all bytes. -/
structure LayS where
  pl : List (List Int)
  out : List UInt8
def pcB (b : List UInt8) (i j : Nat) : List UInt8 := (b.drop i).take (j - i)
section
variable {T : List TrkT} {D : List (List UInt8)} {ch from_ : Nat}
end
end Go.Proofs.Ytlonhkjplijlcaa
namespace Go.Proofs.Ytlonhkjplijlcaa
open Go.RowKit
theorem made_flat {α : Type} {enc : α → List Value} {z : Array Value} {x : α} {sz : Nat} (hz : enc x = z.toList) (hs : z.size = sz) (h0 : 0 < sz) (m : Nat) : (madeCells z (m * sz)).toList = (List.replicate m x).flatMap enc := by
  subst hs
  apply List.ext_getElem?
  intro i
  have hl : ∀ m, ((List.replicate m x).flatMap enc).length = m * z.size := by
    intro m
    induction m with
    | zero => simp
    | succ m ih => rw [List.replicate_succ, List.flatMap_cons, List.length_append, ih, hz]; simp [Nat.add_mul]; omega
  by_cases hi : i < m * z.size
  · have hq : i / z.size < m := Nat.div_lt_of_lt_mul (by rw [Nat.mul_comm]; exact hi)
    have hr : i % z.size < z.size := Nat.mod_lt _ h0
    have he : i / z.size * z.size + i % z.size = i := by rw [Nat.mul_comm]; exact Nat.div_add_mod i _
    have key : ∀ (m q r : Nat), q < m → r < z.size → ((List.replicate m x).flatMap enc)[q * z.size + r]? = some (z[r]!) := by
      intro m
      induction m with
      | zero => intro q r hq _; omega
      | succ m ih =>
        intro q r hq hr
        rw [List.replicate_succ, List.flatMap_cons]
        have hln : (enc x).length = z.size := by rw [hz]; simp
        cases q with
        | zero =>
          rw [List.getElem?_append_left (by rw [hln]; omega), hz]
          simp [hr]
        | succ q =>
          rw [List.getElem?_append_right (by rw [hln, Nat.add_mul]; omega), hln, show (q + 1) * z.size + r - z.size = q * z.size + r by rw [Nat.add_mul]; omega]
          exact ih q r (by omega) hr
    have := key m (i / z.size) (i % z.size) hq hr
    rw [he] at this
    rw [this]
    unfold madeCells
    simp [hi, hr]
  · rw [List.getElem?_eq_none (by rw [Array.length_toList, size_madeCells]; omega), List.getElem?_eq_none (by rw [hl]; omega)]
theorem made_own {α : Type} {enc : α → List Value} {z : Array Value} {x : α} {sz : Nat} {t : TypeId} (hz : enc x = z.toList) (hs : z.size = sz) (h0 : 0 < sz) (W : World) (base m : Nat) (hb : base ≤ W.heap.size) (hm : m ≤ maxLen) :
    Own (W.alloc (.cells (madeCells z (m * sz)) t)) base t sz enc (.slice (some ⟨W.heap.size, 0, none⟩) m m) (List.replicate m x) := by
  have := World.ownsRow_lit (base := base) (size := sz) (e := t) W (madeCells z (m * sz)) m hb hm (size_madeCells _ _)
  rw [made_flat hz hs h0] at this
  unfold Own
  rw [List.length_replicate]
  exact this
theorem made_run {P : Program} (t e : TypeId) (i : TypeInfo) (z : Value) {sz bytes : Nat} (ht : P.underlying t = some (.slice e)) (hi : P.info? e = some i) (hz : i.zero = some z) (hs : i.size = sz) (hby : i.bytes = bytes) (m : Nat) (h1 : bytes * m ≤ 281474976710656) (h2 : m ≤ 9223372036854775807) :
    ∀ W : World, (Instr.makeSlice t (.int .i64 (m : Int)) (.int .i64 (m : Int))).run P W = .ok (.slice (some ⟨W.heap.size, 0, none⟩) m m) (W.alloc (.cells (madeCells z.cells (m * sz)) e)) := fun W => by
  have := run_make (P := P) W t e i z ht hi hz .i64 .i64 (m : Int) (m : Int) (by omega) (Int.le_refl _) (by rw [hby]; rw [← Int.natCast_mul]; omega) (by omega)
  rw [hs] at this
  simpa using this
end Go.Proofs.Ytlonhkjplijlcaa
namespace Go.Proofs.Ytlonhkjplijlcaa
open Go.RowKit
/-- The slice of a row within an array. -/
abbrev rwV (h : Option Addr × Nat × Nat) : Value := .slice h.1 h.2.1 h.2.2
abbrev dR : Option Addr × Nat × Nat := (none, 0, 0)
abbrev dI : Nat × List Int := (0, [])
structure LaM (w0 W : World) (gp m : Nat) (hs : List (Option Addr × Nat × Nat)) (pl : List (List Int)) (S : List (Nat × List Int)) (v : Value) (out : List UInt8) : Prop where
  ext : Ext w0 W
  pls : Own W w0.heap.size 70 1 eB1 (.slice (some ⟨gp, 0, none⟩) m m) hs
  plen : pl.length = m
  rows : ∀ i, i < m → Own W w0.heap.size 3 1 e64 (rwV (hs.getD i dR)) (pl.getD i [])
  ints : ∀ j, j < S.length → Own W w0.heap.size 3 1 e64 (.slice (some ⟨(S.getD j dI).1, 0, none⟩) m m) (S.getD j dI).2
  out_ : Own W w0.heap.size 5 1 e8 v out
  a1 : ∀ j, j < S.length → (S.getD j dI).1 ≠ gp
  a2 : ∀ j k, j < S.length → k < S.length → j ≠ k → (S.getD j dI).1 ≠ (S.getD k dI).1
  a3 : ∀ i, i < m → ∀ g, (rwV (hs.getD i dR)).ownBlock = some g → g ≠ gp ∧ (∀ j, j < S.length → (S.getD j dI).1 ≠ g) ∧ v.ownBlock ≠ some g ∧ ∀ k, k < m → k ≠ i → (rwV (hs.getD k dR)).ownBlock ≠ some g
  a4 : ∀ g, v.ownBlock = some g → g ≠ gp ∧ ∀ j, j < S.length → (S.getD j dI).1 ≠ g
section
variable {w0 W : World} {gp m : Nat} {hs : List (Option Addr × Nat × Nat)} {pl : List (List Int)} {S : List (Nat × List Int)} {v : Value} {out : List UInt8}
theorem LaM.extW (h : LaM w0 W gp m hs pl S v out) {W' : World} (he : Ext W W') : LaM w0 W' gp m hs pl S v out :=
  ⟨Ext.trans h.ext he, h.pls.ext he, h.plen, fun i hi => (h.rows i hi).ext he, fun j hj => (h.ints j hj).ext he, h.out_.ext he, h.a1, h.a2, h.a3, h.a4⟩
theorem LaM.hlen (h : LaM w0 W gp m hs pl S v out) : hs.length = m := (h.pls.atS len_eB1).len
theorem LaM.slt (h : LaM w0 W gp m hs pl S v out) {j : Nat} (hj : j < S.length) : w0.heap.size ≤ (S.getD j dI).1 ∧ (S.getD j dI).1 < W.heap.size := (h.ints j hj).lt _ rfl
theorem getD_set {α : Type} {l : List α} {i j : Nat} {x d : α} (hi : i < l.length) : (l.set i x).getD j d = if i = j then x else l.getD j d := by
  simp only [List.getD_eq_getElem?_getD, List.getElem?_set]
  by_cases hij : i = j
  · subst hij; simp [hi]
  · simp [hij]
/-- A number is stored in a row beside the array. -/
theorem LaM.setS (h : LaM w0 W gp m hs pl S v out) {j : Nat} (hj : j < S.length) (k : Nat) (x : Int) :
    LaM w0 (W.setCell ⟨(S.getD j dI).1, k, none⟩ (.int .i64 x)) gp m hs pl (S.set j ((S.getD j dI).1, (S.getD j dI).2.set k x)) v out := by
  have hT : Tw W (W.setCell ⟨(S.getD j dI).1, k, none⟩ (.int .i64 x)) (S.getD j dI).1 none := Tw.set_ _ _ _ _ _
  have hlt := h.slt hj
  have hblk : ∀ q, ((S.set j ((S.getD j dI).1, (S.getD j dI).2.set k x)).getD q dI).1 = (S.getD q dI).1 := fun q => by
    rw [getD_set hj]; split
    · subst_vars; rfl
    · rfl
  refine ⟨⟨hT.os.trans h.ext.os, hT.tape.trans h.ext.tape, hT.output.trans h.ext.output, Nat.le_trans h.ext.size hT.size, fun q hq => (hT.block q (Nat.lt_of_lt_of_le hq h.ext.size) (by omega) (by simp)).trans (h.ext.block q hq)⟩,
    h.pls.tw hT (fun e => by injection e with e; exact h.a1 j hj e.symm) (fun g _ e => by cases e), h.plen,
    fun i hi => (h.rows i hi).tw hT (fun e => (h.a3 i hi _ e).2.1 j hj rfl) (fun g _ e => by cases e), fun q hq => ?_,
    h.out_.tw hT (fun e => (h.a4 _ e).2 j hj rfl) (fun g _ e => by cases e), fun q hq => ?_, fun q r hq hr hne => ?_, fun i hi g hg => ?_, fun g hg => ?_⟩
  · rw [List.length_set] at hq
    rw [hblk, getD_set hj]
    by_cases hjq : j = q
    · subst hjq
      rw [if_pos rfl]
      exact (h.ints j hj).set1 len_e64 k x _ rfl
    · rw [if_neg hjq]
      exact (h.ints q hq).tw hT (fun e => by injection e with e; exact h.a2 q j hq hj (Ne.symm hjq) e) (fun g _ e => by cases e)
  · rw [List.length_set] at hq; rw [hblk]; exact h.a1 q hq
  · rw [List.length_set] at hq hr; rw [hblk, hblk]; exact h.a2 q r hq hr hne
  · obtain ⟨b1, b2, b3, b4⟩ := h.a3 i hi g hg
    exact ⟨b1, fun q hq => by rw [List.length_set] at hq; rw [hblk]; exact b2 q hq, b3, b4⟩
  · obtain ⟨b1, b2⟩ := h.a4 g hg
    exact ⟨b1, fun q hq => by rw [List.length_set] at hq; rw [hblk]; exact b2 q hq⟩
/-- A number is put behind a row of the array, and the row is stored anew. -/
theorem LaM.app (h : LaM w0 W gp m hs pl S v out) {i : Nat} (hi : i < m) {Wa W6 : World} {x : Int} {A : Option Addr} {n c : Nat} (he : Ext W Wa) (ho : Own W6 w0.heap.size 3 1 e64 (.slice A n c) (pl.getD i [] ++ [x]))
    (hg : Wa.grownBy W6 (rwV (hs.getD i dR)).ownBlock) (hr : (Value.slice A n c).ownBlock = (rwV (hs.getD i dR)).ownBlock ∨ (Value.slice A n c).ownBlock = some Wa.heap.size) :
    LaM w0 (W6.setCell ⟨gp, i, none⟩ (.slice A n c)) gp m (hs.set i (A, n, c)) (pl.set i (pl.getD i [] ++ [x])) S v out := by
  have hl := h.hlen
  have hpl := h.plen
  have s1 := he.size
  have s2 := hg.size
  have hT : Tw W6 (W6.setCell ⟨gp, i, none⟩ (.slice A n c)) gp none := Tw.set_ _ _ _ _ _
  have hTg : Tw Wa W6 Wa.heap.size (rwV (hs.getD i dR)).ownBlock := Tw.of_grown hg
  have hgp := h.pls.lt gp rfl
  have far : ∀ {α : Type} {t : TypeId} {sz : Nat} {enc : α → List Value} {u : Value} {xs : List α}, Own W w0.heap.size t sz enc u xs → (∀ g, u.ownBlock = some g → (rwV (hs.getD i dR)).ownBlock ≠ some g) → Own W6 w0.heap.size t sz enc u xs := fun hu hne =>
    (hu.ext he).tw hTg (fun e => by have := (hu.lt _ e).2; omega) (fun g hg2 e => hne g hg2 e)
  have hne : ∀ g, (Value.slice A n c).ownBlock = some g → g ≠ gp ∧ (∀ j, j < S.length → (S.getD j dI).1 ≠ g) ∧ v.ownBlock ≠ some g ∧ ∀ k, k < m → k ≠ i → (rwV (hs.getD k dR)).ownBlock ≠ some g := fun g hg2 => by
    rcases hr with hr | hr
    · exact h.a3 i hi g (by rw [← hr]; exact hg2)
    · rw [hr] at hg2
      injection hg2 with hg2
      subst hg2
      refine ⟨by omega, fun j hj => ?_, fun e => ?_, fun k hk _ e => ?_⟩
      · have := (h.slt hj).2; omega
      · have := (h.out_.lt _ e).2; omega
      · have := ((h.rows k hk).lt _ e).2; omega
  have hnb : (Value.slice A n c).ownBlock ≠ some gp := fun e => (hne gp e).1 rfl
  have e6 : Ext w0 W6 := by
    refine ⟨hg.os.trans (he.os.trans h.ext.os), hg.tape.trans (he.tape.trans h.ext.tape), hg.output.trans (he.output.trans h.ext.output), Nat.le_trans h.ext.size (Nat.le_trans s1 s2), fun q hq => ?_⟩
    have h1 := h.ext.size
    exact (hg.block q (by omega) (fun e => by have := (h.rows i hi).lt q e.symm; omega)).trans ((he.block q (by omega)).trans (h.ext.block q hq))
  refine ⟨⟨hT.os.trans e6.os, hT.tape.trans e6.tape, hT.output.trans e6.output, Nat.le_trans e6.size hT.size, fun q hq => (hT.block q (Nat.lt_of_lt_of_le hq e6.size) (by omega) (by simp)).trans (e6.block q hq)⟩,
    (far h.pls (fun g e e2 => by injection e with e; exact (h.a3 i hi g e2).1 e.symm)).set1 len_eB1 i (A, n, c) _ rfl, by rw [List.length_set, hpl], fun k hk => ?_, fun j hj => ?_, ?_, h.a1, h.a2, fun k hk g hg2 => ?_, fun g hg2 => ?_⟩
  · rw [getD_set (by omega), getD_set (by omega)]
    by_cases hik : i = k
    · subst hik
      rw [if_pos rfl, if_pos rfl]
      exact ho.tw hT hnb (fun g _ e => by cases e)
    · rw [if_neg hik, if_neg hik]
      exact (far (h.rows k hk) (fun g e e2 => (h.a3 i hi g e2).2.2.2 k hk (Ne.symm hik) e)).tw hT (fun e => (h.a3 k hk _ e).1 rfl) (fun g _ e => by cases e)
  · exact (far (h.ints j hj) (fun g e e2 => by injection e with e; exact (h.a3 i hi g e2).2.1 j hj e)).tw hT (fun e => by injection e with e; exact h.a1 j hj e) (fun g _ e => by cases e)
  · exact (far h.out_ (fun g e e2 => (h.a3 i hi g e2).2.2.1 e)).tw hT (fun e => (h.a4 _ e).1 rfl) (fun g _ e => by cases e)
  · rw [getD_set (by omega)] at hg2
    by_cases hik : i = k
    · subst hik
      rw [if_pos rfl] at hg2
      obtain ⟨b1, b2, b3, b4⟩ := hne g hg2
      refine ⟨b1, b2, b3, fun q hq hqi => ?_⟩
      rw [getD_set (by omega), if_neg (Ne.symm hqi)]
      exact b4 q hq hqi
    · rw [if_neg hik] at hg2
      obtain ⟨b1, b2, b3, b4⟩ := h.a3 k hk g hg2
      refine ⟨b1, b2, b3, fun q hq hqk => ?_⟩
      rw [getD_set (by omega)]
      by_cases hiq : i = q
      · rw [if_pos hiq]
        intro e
        have e2 : (Value.slice A n c).ownBlock = some g := e
        exact (hne g e2).2.2.2 k hk (Ne.symm hik) hg2
      · rw [if_neg hiq]; exact b4 q hq hqk
  · exact h.a4 g hg2
end
end Go.Proofs.Ytlonhkjplijlcaa
