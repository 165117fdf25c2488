/- What licences permit, in plain words, and the first time at which they permit nothing. No condition. -/
import Init
namespace Go.Proofs.Ytfpmjaeehhegcaa
section
variable {σ : Type} [DecidableEq σ]
/-- A licence. -/
structure LicT (σ : Type) where
  user : σ
  id : σ
  pf : Int
  pt : Int
  frm : Int
  upto : Int
  long : Int
  outs : List (σ × Int)
/-- Who asks for what. -/
structure WhoT (σ : Type) where
  user : σ
  period : Int
  out : σ
  height : Int
def outB (q : WhoT σ) (x : LicT σ) : Bool := x.outs.any fun o => decide (o.1 = q.out ∧ q.height ≤ o.2)
/-- Does a licence permit a play at a time, which was first played at another one (-1: never)? -/
def permB (q : WhoT σ) (first time : Int) (x : LicT σ) : Bool :=
  decide (x.user = q.user ∧ x.pf ≤ q.period ∧ q.period < x.pt ∧ x.frm ≤ time ∧ time < x.upto) && outB q x && decide (x.long = 0 ∨ first = -1 ∨ time < first + x.long)
/-- When what a licence permits ends. -/
def stopI (first : Int) (x : LicT σ) : Int := if 0 < x.long then min x.upto (first + x.long) else x.upto
theorem perm_stop {q : WhoT σ} {first time : Int} {x : LicT σ} (hf : first ≠ -1) (hl : 0 ≤ x.long) (h : permB q first time x = true) : time < stopI first x ∧ stopI first x ≤ x.upto ∧ ∀ t, time ≤ t → t < stopI first x → permB q first t x = true := by
  unfold permB stopI at *
  simp only [Bool.and_eq_true, decide_eq_true_eq] at *
  obtain ⟨⟨⟨h1, h2, h3, h4, h5⟩, h6⟩, h7⟩ := h
  by_cases hp : 0 < x.long
  · simp only [if_pos hp]
    refine ⟨by omega, by omega, fun t ht hs => ⟨⟨⟨h1, h2, h3, by omega, by omega⟩, h6⟩, by omega⟩⟩
  · simp only [if_neg hp]
    refine ⟨by omega, by omega, fun t ht hs => ⟨⟨⟨h1, h2, h3, by omega, by omega⟩, h6⟩, by omega⟩⟩
theorem perm_not_stop {q : WhoT σ} {first : Int} {x : LicT σ} (hf : first ≠ -1) (t : Int) (h : stopI first x ≤ t) : permB q first t x = false := by
  unfold permB stopI at *
  rw [Bool.and_eq_false_iff]
  by_cases hp : 0 < x.long
  · rw [if_pos hp] at h
    by_cases h2 : x.upto ≤ t
    · left; rw [Bool.and_eq_false_iff]; left; rw [decide_eq_false_iff_not]; omega
    · right; rw [decide_eq_false_iff_not]; omega
  · rw [if_neg hp] at h
    left; rw [Bool.and_eq_false_iff]; left; rw [decide_eq_false_iff_not]; omega
/-- At each time from t0 on, ahead of t, something permits it. -/
def CovI (q : WhoT σ) (l : List (LicT σ)) (first t0 t : Int) : Prop := t0 ≤ t ∧ ∀ s, t0 ≤ s → s < t → ∃ x ∈ l, permB q first s x = true
/-- The end of what licences permit from t0 on. -/
def EndI (q : WhoT σ) (l : List (LicT σ)) (first t0 t : Int) : Prop := CovI q l first t0 t ∧ ∀ x ∈ l, permB q first t x = false
variable {q : WhoT σ} {l : List (LicT σ)} {first t0 t t' : Int} {x : LicT σ}
theorem CovI.refl : CovI q l first t0 t0 := ⟨Int.le_refl _, fun s h1 h2 => by omega⟩
theorem CovI.step (hf : first ≠ -1) (hl : 0 ≤ x.long) (hx : x ∈ l) (h : CovI q l first t0 t) (hp : permB q first t x = true) : CovI q l first t0 (stopI first x) ∧ t < stopI first x := by
  have := perm_stop hf hl hp
  refine ⟨⟨by have := h.1; omega, fun s h1 h2 => ?_⟩, this.1⟩
  by_cases hs : s < t
  · exact h.2 s h1 hs
  · exact ⟨x, hx, this.2.2 s (by omega) h2⟩
theorem CovI.max (h : CovI q l first t0 t) (h' : CovI q l first t0 t') : CovI q l first t0 (max t t') := by
  by_cases e : t ≤ t'
  · rw [Int.max_eq_right e]; exact h'
  · rw [Int.max_eq_left (by omega)]; exact h
theorem EndI.unique (h : EndI q l first t0 t) (h' : EndI q l first t0 t') : t = t' := by
  rcases Int.lt_trichotomy t t' with e | e | e
  · obtain ⟨x, hx, hp⟩ := h'.1.2 t h.1.1 e
    rw [h.2 x hx] at hp; cases hp
  · exact e
  · obtain ⟨x, hx, hp⟩ := h.1.2 t' h'.1.1 e
    rw [h'.2 x hx] at hp; cases hp
/-- How many licences end behind a time. -/
def afterN (l : List (LicT σ)) (first t : Int) : Nat := l.countP fun x => decide (t < stopI first x)
omit [DecidableEq σ] in
theorem afterN_le (l : List (LicT σ)) (first t : Int) : afterN l first t ≤ l.length := List.countP_le_length
theorem count_lt {α : Type} {p p' : α → Bool} : ∀ {l : List α} {x : α}, x ∈ l → (∀ y, p' y = true → p y = true) → p x = true → p' x = false → l.countP p' < l.countP p
  | [], _, h, _, _, _ => by simp at h
  | y :: ys, x, h, hm, hp, hn => by
    rw [List.countP_cons, List.countP_cons]
    rcases List.mem_cons.1 h with e | e
    · subst e
      have := List.countP_mono_left (l := ys) (p := p') (q := p) fun z _ hz => hm z hz
      simp [hp, hn]; omega
    · have ih := count_lt e hm hp hn
      by_cases hy : p' y = true
      · simp [hy, hm y hy]; omega
      · have hy' : p' y = false := by simpa using hy
        by_cases hy2 : p y = true <;> simp [hy', hy2] <;> omega
omit [DecidableEq σ] in
theorem afterN_lt (hx : x ∈ l) (h : t < stopI first x) (ht : stopI first x ≤ t') : afterN l first t' < afterN l first t :=
  count_lt hx (fun y hy => by simp only [decide_eq_true_eq] at *; omega) (by simpa using h) (by simp; omega)
end
end Go.Proofs.Ytfpmjaeehhegcaa
