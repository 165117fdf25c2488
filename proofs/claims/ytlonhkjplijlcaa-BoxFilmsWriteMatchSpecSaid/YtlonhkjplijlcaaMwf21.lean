/- Several texts in one: Tables in plain words: how many samples a chunk has, and that both ways of counting them agree. Plain; A right table has few elements. Plain. -/
import Derived.Test.YtlonhkjplijlcaaMwf08
namespace Go.Proofs.Ytlonhkjplijlcaa
/-- How many samples a chunk has, by the first runs. -/
def smOK (l : List (Int × Int)) (c : Int) : Nat → Int
  | 0 => 0
  | k + 1 => if (l.getD k (0, 0)).1 ≤ c then (l.getD k (0, 0)).2 else smOK l c k
def smO (l : List (Int × Int)) (c : Int) : Int := smOK l c l.length
/-- How many samples the first chunks have. -/
def allS (l : List (Int × Int)) : Nat → Int
  | 0 => 0
  | i + 1 => allS l i + smO l ((i : Int) + 1)
theorem smOK_bd {l : List (Int × Int)} (h : firstF (chEl l) l.length = 0) (c : Int) : ∀ k, k ≤ l.length → 0 ≤ smOK l c k ∧ smOK l c k ≤ 1000
  | 0, _ => by simp [smOK]
  | k + 1, hk => by
    have ih := smOK_bd h c k (by omega)
    have := (ch_ok h k (by omega)).1
    rw [smOK]; split <;> omega
theorem smO_bd {l : List (Int × Int)} (h : firstF (chEl l) l.length = 0) (c : Int) : 0 ≤ smO l c ∧ smO l c ≤ 1000 := smOK_bd h c _ (Nat.le_refl _)
theorem allS_bd {l : List (Int × Int)} (h : firstF (chEl l) l.length = 0) : ∀ i, 0 ≤ allS l i ∧ allS l i ≤ 1000 * (i : Int)
  | 0 => by simp [allS]
  | i + 1 => by
    have ih := allS_bd h i
    have := smO_bd h ((i : Int) + 1)
    rw [allS]; omega
theorem ch_mono {l : List (Int × Int)} (h : firstF (chEl l) l.length = 0) {i : Nat} : ∀ j, i < j → j < l.length → (l.getD i (0, 0)).1 < (l.getD j (0, 0)).1
  | 0, hij, _ => absurd hij (Nat.not_lt_zero _)
  | j + 1, hij, hj => by
    have h1 := (ch_ok h (j + 1) hj).2.2 (by omega)
    rw [show j + 1 - 1 = j by omega] at h1
    rcases Nat.lt_succ_iff_lt_or_eq.1 hij with h2 | h2
    · have := ch_mono h j h2 (by omega); omega
    · rw [h2]; exact h1
/-- The samples of a chunk are those of its run. -/
theorem smO_at {l : List (Int × Int)} (h : firstF (chEl l) l.length = 0) {k : Nat} (hk : k < l.length) {c : Int} (h1 : (l.getD k (0, 0)).1 ≤ c) (h2 : k + 1 < l.length → c < (l.getD (k + 1) (0, 0)).1) : smO l c = (l.getD k (0, 0)).2 := by
  have key : ∀ m, k < m → m ≤ l.length → smOK l c m = (l.getD k (0, 0)).2 := by
    intro m
    induction m with
    | zero => intro h3; omega
    | succ m ih =>
      intro h3 h4
      rcases Nat.lt_succ_iff_lt_or_eq.1 h3 with h5 | h5
      · have h6 := h2 (by omega)
        have h7 : ¬ (l.getD m (0, 0)).1 ≤ c := by
          rcases Nat.lt_or_ge (k + 1) m with h8 | h8
          · have := ch_mono h m h8 (by omega); omega
          · rw [show m = k + 1 by omega]; omega
        rw [smOK, if_neg h7]
        exact ih h5 (by omega)
      · subst h5
        rw [smOK, if_pos h1]
  exact key _ hk (Nat.le_refl _)
theorem allS_run {l : List (Int × Int)} {v : Int} (a : Nat) : ∀ m : Nat, (∀ c : Nat, a < c → c ≤ a + m → smO l (c : Int) = v) → allS l (a + m) = allS l a + (m : Int) * v
  | 0, _ => by simp
  | m + 1, h => by
    have ih := allS_run a m (fun c h1 h2 => h c h1 (by omega))
    have h1 := h (a + m + 1) (by omega) (by omega)
    rw [show a + (m + 1) = a + m + 1 by omega, allS, ih, show ((a + m : Nat) : Int) + 1 = ((a + m + 1 : Nat) : Int) by push_cast; rfl, h1]
    push_cast
    rw [Int.add_mul]; omega
theorem allS_first {l : List (Int × Int)} {p : Nat} (h : firstF (chEl l) l.length = 0) (hf : ¬ chForm l p) : ∀ k, k < l.length → allS l ((l.getD k (0, 0)).1 - 1).toNat = chSum l p k
  | 0, hk => by
    have := (ch_ok h 0 hk).2.1 rfl
    rw [this]; rfl
  | k + 1, hk => by
    have ih := allS_first h hf k (by omega)
    have h1 := (ch_ok h k (by omega)).1
    have h2 := ch_mono h (k + 1) (Nat.lt_succ_self k) hk
    have h3 := allS_run (l := l) (v := (l.getD k (0, 0)).2) ((l.getD k (0, 0)).1 - 1).toNat ((l.getD (k + 1) (0, 0)).1 - (l.getD k (0, 0)).1).toNat (fun c h4 h5 => smO_at h (by omega) (by omega) (fun _ => by omega))
    rw [show ((l.getD k (0, 0)).1 - 1).toNat + ((l.getD (k + 1) (0, 0)).1 - (l.getD k (0, 0)).1).toNat = ((l.getD (k + 1) (0, 0)).1 - 1).toNat by omega, ih] at h3
    rw [h3, chSum]
    have h8 : nextC l p k = (l.getD (k + 1) (0, 0)).1 := by unfold nextC; rw [if_pos hk]
    rw [h8, show ((((l.getD (k + 1) (0, 0)).1 - (l.getD k (0, 0)).1).toNat : Nat) : Int) = (l.getD (k + 1) (0, 0)).1 - (l.getD k (0, 0)).1 by omega]
/-- Both ways of counting agree. -/
theorem allS_sum {l : List (Int × Int)} {p : Nat} (h : firstF (chEl l) l.length = 0) (hf : ¬ chForm l p) : allS l p = chSum l p l.length := by
  rcases Nat.eq_zero_or_pos l.length with h0 | h0
  · have hp : p = 0 := by
      rcases Nat.eq_zero_or_pos p with h1 | h1
      · exact h1
      · exact absurd (.inl ⟨h1, h0⟩) hf
    subst hp; rw [h0]; rfl
  · obtain ⟨k, hk⟩ : ∃ k, l.length = k + 1 := ⟨l.length - 1, by omega⟩
    have h1 := allS_first h hf k (by omega)
    have h2 := (ch_ok h k (by omega)).1
    have h3 : ¬ ((p : Int) < (l.getD k (0, 0)).1) := fun hc => hf (.inr ⟨by omega, by rw [show l.length - 1 = k by omega]; exact hc⟩)
    have h4 := allS_run (l := l) (v := (l.getD k (0, 0)).2) ((l.getD k (0, 0)).1 - 1).toNat (p + 1 - (l.getD k (0, 0)).1.toNat) (fun c h5 h6 => smO_at h (by omega) (by omega) (fun _ => by omega))
    rw [show ((l.getD k (0, 0)).1 - 1).toNat + (p + 1 - (l.getD k (0, 0)).1.toNat) = p by omega, h1] at h4
    rw [h4, hk, chSum]
    have h8 : nextC l p k = (p : Int) + 1 := by unfold nextC; rw [if_neg (by omega)]
    rw [h8, show ((p + 1 - (l.getD k (0, 0)).1.toNat : Nat) : Int) = (p : Int) + 1 - (l.getD k (0, 0)).1 by omega]
/-- A run that begins behind the last chunk. -/
def behC (l : List (Int × Int)) (p i : Nat) : Bool := decide ((p : Int) < (l.getD i (0, 0)).1)
/-- The document's fault of chunks. -/
theorem chunks_doc1 {n : Int} {l : List (Int × Int)} {pl : List Int} (h : firstF (chEl l) l.length = 0) (h1 : allS l pl.length ≠ n ∨ (0 < pl.length ∧ l.length = 0)) : chunksF n l pl = 3 := by
  unfold chunksF
  rw [if_neg (by omega)]
  by_cases hf : chForm l pl.length
  · rw [if_pos hf]
  · rw [if_neg hf, if_pos]
    rcases h1 with h1 | h1
    · rw [← allS_sum h hf]; exact h1
    · exact absurd (.inl h1) hf
theorem chunks_doc2 {n : Int} {l : List (Int × Int)} {pl : List Int} (h : firstF (chEl l) l.length = 0) {i : Nat} (hi : i < l.length) (h1 : behC l pl.length i = true) : chunksF n l pl = 3 := by
  unfold chunksF
  rw [if_neg (by omega), if_pos]
  right
  refine ⟨by omega, ?_⟩
  have h2 := of_decide_eq_true h1
  rcases Nat.lt_or_ge i (l.length - 1) with h3 | h3
  · have := ch_mono h (l.length - 1) h3 (by omega); omega
  · rw [show l.length - 1 = i by omega]; exact h2
theorem chunks_doc3 {n : Int} {l : List (Int × Int)} {pl : List Int} (h : firstF (chEl l) l.length = 0) (h1 : ¬ (allS l pl.length ≠ n ∨ (0 < pl.length ∧ l.length = 0))) (h2 : ∀ i, i < l.length → behC l pl.length i = false) : chunksF n l pl = firstF (plEl pl) pl.length := by
  have hf : ¬ chForm l pl.length := by
    rintro (hc | ⟨hc, hd⟩)
    · exact h1 (.inr hc)
    · have := of_decide_eq_false (h2 (l.length - 1) (by omega)); exact this hd
  unfold chunksF
  rw [if_neg (by omega), if_neg hf, if_neg]
  rw [← allS_sum h hf]
  exact fun hc => h1 (.inl hc)
end Go.Proofs.Ytlonhkjplijlcaa
namespace Go.Proofs.Ytlonhkjplijlcaa
/-- What is known of a right table. -/
structure TabR1 (t : Tab) : Prop where
  start : noT t.start = false
  steps : runsF 0 t.steps = 0
  few : cntA t.steps ≤ 5000
  shifts : runsF (-1000000000) t.shifts = 0
  same : cntA t.shifts = cntA t.steps
  sz : ¬ szBad (cntA t.steps) t.sizes.length
  sizes : firstF (szEl t.sizes) t.sizes.length = 0
  keys : firstF (kyEl (cntA t.steps) t.keys) t.keys.length = 0
  chunks : firstF (chEl t.chunks) t.chunks.length = 0
  form : ¬ chForm t.chunks t.places.length
  sum : chSum t.chunks t.places.length t.chunks.length = cntA t.steps
  places : firstF (plEl t.places) t.places.length = 0
  ends : noT (endI t.start t.steps t.steps.length) = false
theorem tab_right {t : Tab} (h : tabF t = 0) : TabR1 t := by
  have h1 : noT t.start = false := by
    cases hc : noT t.start with
    | false => rfl
    | true => rw [tabF_start hc] at h; omega
  have h2 : runsF 0 t.steps = 0 := Classical.byContradiction fun hc => by rw [tabF_steps h1 hc] at h; exact hc h
  have h3 : ¬ 5000 < cntA t.steps := fun hc => by rw [tabF_large h1 h2 hc] at h; omega
  have h4 : runsF (-1000000000) t.shifts = 0 := Classical.byContradiction fun hc => by rw [tabF_shifts h1 h2 h3 hc] at h; exact hc h
  rw [tabF_two h1 h2 h3 h4] at h
  have h5 : ¬ (cntA t.shifts ≠ cntA t.steps ∨ szBad (cntA t.steps) t.sizes.length) := fun hc => by rw [tabF2_form hc] at h; omega
  have h6 : firstF (szEl t.sizes) t.sizes.length = 0 := Classical.byContradiction fun hc => by rw [tabF2_sizes h5 hc] at h; exact hc h
  have h7 : firstF (kyEl (cntA t.steps) t.keys) t.keys.length = 0 := Classical.byContradiction fun hc => by rw [tabF2_keys h5 h6 hc] at h; exact hc h
  rw [tabF2_three h5 h6 h7] at h
  unfold tabF3 at h
  have h8 : chunksF (cntA t.steps) t.chunks t.places = 0 := Classical.byContradiction fun hc => by rw [if_pos hc] at h; exact hc h
  rw [if_neg (by omega)] at h
  have h9 : noT (endI t.start t.steps t.steps.length) = false := by
    cases hc : noT (endI t.start t.steps t.steps.length) with
    | false => rfl
    | true => rw [hc, if_pos rfl] at h; omega
  unfold chunksF at h8
  have g1 : firstF (chEl t.chunks) t.chunks.length = 0 := Classical.byContradiction fun hc => by rw [if_pos hc] at h8; exact hc h8
  rw [if_neg (by omega)] at h8
  have g2 : ¬ chForm t.chunks t.places.length := fun hc => by rw [if_pos hc] at h8; omega
  rw [if_neg g2] at h8
  have g3 : chSum t.chunks t.places.length t.chunks.length = cntA t.steps := Classical.byContradiction fun hc => by rw [if_pos hc] at h8; omega
  rw [if_neg (by omega)] at h8
  exact ⟨h1, h2, by omega, h4, by omega, fun hc => h5 (.inr hc), h6, h7, g1, g2, g3, h8, h9⟩
theorem key_at {n : Int} {l : List Int} (h : firstF (kyEl n l) l.length = 0) {i : Nat} (hi : i < l.length) : 1 ≤ l.getD i 0 ∧ l.getD i 0 ≤ n ∧ (0 < i → l.getD (i - 1) 0 < l.getD i 0) := by
  have := firstF_all h i hi
  unfold kyEl at this
  by_cases h1 : l.getD i 0 < 1 ∨ n < l.getD i 0
  · rw [if_pos h1] at this; omega
  · rw [if_neg h1] at this
    by_cases h2 : 0 < i ∧ l.getD i 0 ≤ l.getD (i - 1) 0
    · rw [if_pos h2] at this; omega
    · exact ⟨by omega, by omega, fun h3 => by omega⟩
theorem key_asc {n : Int} {l : List Int} (h : firstF (kyEl n l) l.length = 0) : ∀ i, i < l.length → (i : Int) + 1 ≤ l.getD i 0
  | 0, hi => by have := (key_at h hi).1; omega
  | i + 1, hi => by
    have ih := key_asc h i (by omega)
    have := (key_at h hi).2.2 (by omega)
    rw [show i + 1 - 1 = i by omega] at this
    omega
theorem smO_pos {l : List (Int × Int)} (h : firstF (chEl l) l.length = 0) (h0 : 0 < l.length) {c : Int} (hc : 1 ≤ c) : 1 ≤ smO l c := by
  have key : ∀ k, 0 < k → k ≤ l.length → 1 ≤ smOK l c k := by
    intro k
    induction k with
    | zero => intro h1; omega
    | succ k ih =>
      intro _ h2
      have h3 := ch_ok h k (by omega)
      rw [smOK]
      split
      · exact h3.1.2.2.1
      · rename_i h4
        rcases Nat.eq_zero_or_pos k with h5 | h5
        · have := h3.2.1 h5; omega
        · exact ih h5 (by omega)
  exact key _ h0 (Nat.le_refl _)
theorem allS_ge {l : List (Int × Int)} (h : firstF (chEl l) l.length = 0) (h0 : 0 < l.length) : ∀ i : Nat, (i : Int) ≤ allS l i
  | 0 => by simp [allS]
  | i + 1 => by
    have ih := allS_ge h h0 i
    have := smO_pos h h0 (c := (i : Int) + 1) (by omega)
    rw [allS]; omega
theorem tab_few {t : Tab} (h : TabR1 t) : t.steps.length ≤ 5000 ∧ t.shifts.length ≤ 5000 ∧ t.sizes.length ≤ 5000 ∧ t.keys.length ≤ 5000 ∧ t.chunks.length ≤ 5000 ∧ t.places.length ≤ 5000 := by
  have hf := h.few
  have h1 : (t.steps.length : Int) ≤ cntA t.steps := (cntI_bd h.steps _ (Nat.le_refl _)).1
  have h2 : (t.shifts.length : Int) ≤ cntA t.shifts := (cntI_bd h.shifts _ (Nat.le_refl _)).1
  have hs := h.same
  refine ⟨by omega, by omega, ?_, ?_, ch_len h.chunks, ?_⟩
  · have := h.sz
    unfold szBad at this
    omega
  · rcases Nat.eq_zero_or_pos t.keys.length with h0 | h0
    · omega
    · have h3 := key_asc h.keys (t.keys.length - 1) (by omega)
      have h4 := (key_at h.keys (i := t.keys.length - 1) (by omega)).2.1
      omega
  · rcases Nat.eq_zero_or_pos t.places.length with h0 | h0
    · omega
    · have h3 : 0 < t.chunks.length := Nat.pos_of_ne_zero fun hc => h.form (.inl ⟨h0, hc⟩)
      have h4 := allS_ge h.chunks h3 t.places.length
      have h5 := allS_sum h.chunks h.form
      have h6 := h.sum
      omega
end Go.Proofs.Ytlonhkjplijlcaa
