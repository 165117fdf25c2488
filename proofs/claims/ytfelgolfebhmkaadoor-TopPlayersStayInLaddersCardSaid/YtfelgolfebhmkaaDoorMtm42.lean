/- A session, in plain words: what a player that is followed leaves is a right session, and what is in the buffer at a time. Conditions as stated. -/
import Derived.Test.YtfelgolfebhmkaaDoorMtm11
namespace Go.Proofs.YtfelgolfebhmkaaDoor
def stS (t : Int) : List (Int × Int) → Int
  | [] => 0
  | x :: r => max 0 (min t x.2 - x.1) + stS t r
theorem stS_app (t : Int) (x : Int × Int) : ∀ l, stS t (l ++ [x]) = stS t l + max 0 (min t x.2 - x.1)
  | [] => by simp [stS]
  | y :: r => by simp only [List.cons_append, stS, stS_app t x r]; omega
set_option linter.unusedVariables false in
theorem stS_end {t u : Int} : ∀ {l : List (Int × Int)}, (∀ x ∈ l, x.2 ≤ t) → (∀ x ∈ l, x.2 ≤ u) → stS t l = stS u l
  | [], _, _ => rfl
  | x :: r, h, h' => by
    have h1 := h x (List.mem_cons_self ..)
    have h2 := h' x (List.mem_cons_self ..)
    have := stS_end (l := r) (fun y hy => h y (List.mem_cons_of_mem _ hy)) (fun y hy => h' y (List.mem_cons_of_mem _ hy))
    simp only [stS, this]; omega
def stOk (b : Int) (e : Int) : List (Int × Int) → Prop
  | [] => b ≤ e
  | x :: r => b ≤ x.1 ∧ x.1 < x.2 ∧ stOk x.2 e r
set_option linter.unusedVariables false in
theorem stOk_le {e : Int} : ∀ {l : List (Int × Int)} {b : Int}, stOk b e l → b ≤ e
  | [], _, h => h
  | x :: r, b, h => by have := stOk_le h.2.2; have := h.1; have := h.2.1; omega
set_option linter.unusedVariables false in
theorem stOk_mono {e e' : Int} (he : e ≤ e') : ∀ {l : List (Int × Int)} {b : Int}, stOk b e l → stOk b e' l
  | [], b, h => by unfold stOk at *; omega
  | x :: r, b, h => ⟨h.1, h.2.1, stOk_mono he h.2.2⟩
set_option linter.unusedVariables false in
theorem stOk_app {e t : Int} (ht : e < t) : ∀ {l : List (Int × Int)} {b : Int}, stOk b e l → stOk b t (l ++ [(e, t)])
  | [], b, h => ⟨h, ht, Int.le_refl _⟩
  | x :: r, b, h => ⟨h.1, h.2.1, stOk_app ht h.2.2⟩
set_option linter.unusedVariables false in
theorem stOk_mem {e : Int} : ∀ {l : List (Int × Int)} {b : Int}, stOk b e l → ∀ x ∈ l, b ≤ x.1 ∧ x.1 < x.2 ∧ x.2 ≤ e
  | [], _, _, x, hx => by cases hx
  | y :: r, b, h, x, hx => by
    rcases List.mem_cons.1 hx with rfl | hx
    · exact ⟨h.1, h.2.1, stOk_le h.2.2⟩
    · have := stOk_mem h.2.2 x hx
      have h1 := h.1
      have h2 := h.2.1
      exact ⟨by omega, this.2.1, this.2.2⟩
def pT (s : WaT) (t : Int) : Int :=
  if s.begun = true then max 0 (t - s.beg) - stS t s.stalls - (if s.plays = true then 0 else max 0 (t - s.stalled)) else 0
structure okS (s : WaT) (first sum : Int) : Prop where
  ok : okW s
  fst : first ≤ s.at_
  beg : s.begun = true → first ≤ s.beg ∧ stOk s.beg (if s.plays = true then s.at_ else s.stalled) s.stalls
  none : s.begun = false → s.stalls = [] ∧ s.buf = sum
  done : s.begun = true → pT s s.at_ = sum - s.buf
theorem pT_past {s : WaT} {a b t : Int} (h : okS s a b) (ht : s.at_ ≤ t) : pT s t = pT s s.at_ + (if s.plays = true then t - s.at_ else 0) := by
  obtain ⟨⟨h1, h2, h3⟩, h4, h5, h6, h7⟩ := h
  unfold pT
  cases hb : s.begun with
  | false =>
    cases hp : s.plays with
    | false => simp
    | true => have := h2 hp; rw [hb] at this; cases this
  | true =>
    obtain ⟨_, h5⟩ := h5 hb
    cases hp : s.plays with
    | true =>
      rw [hp] at h5
      simp only [if_true] at h5 ⊢
      have hm := fun x hx => (stOk_mem h5 x hx).2.2
      rw [stS_end (t := t) (u := s.at_) (fun x hx => by have := hm x hx; omega) hm]
      have := stOk_le h5
      omega
    | false =>
      rw [hp] at h5
      have h3 := h3 hp hb
      simp only [Bool.false_eq_true, if_false, if_true] at h5 ⊢
      have hm := fun x hx => (stOk_mem h5 x hx).2.2
      rw [stS_end (t := t) (u := s.at_) (fun x hx => by have := hm x hx; omega) (fun x hx => by have := hm x hx; omega)]
      have := stOk_le h5
      omega
set_option linter.unusedVariables false in
theorem pT_step {full start resume long t u a b : Int} {last : Bool} {s : WaT} (h : okS s a b) (ht : askT full long s ≤ t) (hu : u ≤ t) :
    pT (camT start resume long t last s) u = if s.plays = true then pT s (min u (s.at_ + s.buf)) else pT s u := by
  have hb := ask_bd (full := full) (long := long) h.ok
  obtain ⟨⟨h1, h2, h3⟩, h4, h5, h6, h7⟩ := h
  generalize askT full long s = q at *
  obtain ⟨a0, b0, p0, g0, s0, e0, l0⟩ := s
  simp only at *
  cases p0 with
  | true =>
    obtain rfl := h2 rfl
    obtain ⟨h5a, h5⟩ := h5 rfl
    simp only [if_true] at h5 ⊢
    have hle := stOk_le h5
    have hm := fun x hx => (stOk_mem h5 x hx).2.2
    by_cases hs : a0 + b0 < t
    · have e1 : stS (min u (a0 + b0)) l0 = stS u l0 := by
        by_cases hua : u ≤ a0 + b0
        · rw [show min u (a0 + b0) = u by omega]
        · exact stS_end (fun x hx => by have := hm x hx; omega) (fun x hx => by have := hm x hx; omega)
      unfold camT landT passT drainT pT
      simp only [hs, and_self, if_true, Bool.false_eq_true, if_false, true_and, Bool.true_eq_false, false_and, e1]
      by_cases hr : resume ≤ (if a0 ≤ a0 + b0 then (0:Int) else b0) + long ∨ last = true
      · rw [if_pos hr]
        simp only [if_true, stS_app]
        omega
      · rw [if_neg hr]
        simp only [if_true, Bool.false_eq_true, if_false]
        omega
    · unfold camT landT passT drainT pT
      simp only [hs, and_false, if_false, if_true]
      rw [show min u (a0 + b0) = u by omega]
  | false =>
    cases g0 with
    | true =>
      have h3 := h3 rfl rfl
      unfold camT landT passT drainT pT
      simp only [Bool.false_eq_true, false_and, if_false, Bool.true_eq_false, true_and]
      by_cases hr : resume ≤ (if a0 ≤ s0 then (0:Int) else b0) + long ∨ last = true
      · rw [if_pos hr]
        simp only [if_true, stS_app]
        omega
      · rw [if_neg hr]
        simp only [if_true, Bool.false_eq_true, if_false]
    | false =>
      obtain ⟨h6a, h6b⟩ := h6 rfl
      subst h6a
      unfold camT landT passT drainT pT
      simp only [Bool.false_eq_true, false_and, if_false, true_and]
      by_cases hr : start ≤ b0 + long ∨ last = true
      · rw [if_pos hr]
        simp only [if_true, stS]
        omega
      · rw [if_neg hr]
        simp only [Bool.false_eq_true, if_false]
theorem okS.came {full start resume long t a b : Int} {last : Bool} {s : WaT} (h : okS s a b) (hl : 0 ≤ long) (ht : askT full long s ≤ t) : okS (camT start resume long t last s) a (b + long) := by
  have hp := fun u hu => pT_step (start := start) (resume := resume) (last := last) (u := u) h ht hu
  have hq := fun u hu => pT_past (t := u) h hu
  have hb := ask_bd (full := full) (long := long) h.ok
  have ok' := h.ok.came (start := start) (resume := resume) (last := last) hl ht
  have hs := ask_still (full := full) (long := long) (s := s)
  have hat : (camT start resume long t last s).at_ = t := camT_at
  have hp := hp t (Int.le_refl _)
  have hq1 := hq (min t (s.at_ + s.buf))
  have hq2 := hq t
  refine ⟨ok', by rw [hat]; have := h.fst; omega, ?_, ?_, ?_⟩
  · obtain ⟨⟨h1, h2, h3⟩, h4, h5, h6, h7⟩ := h
    clear hp hq hq1 hq2 ok' hat h7
    generalize askT full long s = q at *
    obtain ⟨a0, b0, p0, g0, s0, e0, l0⟩ := s
    simp only at *
    intro hbg
    cases p0 with
    | true =>
      obtain rfl := h2 rfl
      obtain ⟨h5a, h5⟩ := h5 rfl
      simp only [if_true] at h5
      by_cases hs : a0 + b0 < t
      · unfold camT landT passT drainT
        simp only [hs, and_self, if_true, Bool.false_eq_true, if_false, true_and, Bool.true_eq_false, false_and]
        by_cases hr : resume ≤ (if a0 ≤ a0 + b0 then (0:Int) else b0) + long ∨ last = true
        · rw [if_pos hr]
          exact ⟨h5a, stOk_app hs (stOk_mono (by omega) h5)⟩
        · rw [if_neg hr]
          refine ⟨h5a, ?_⟩
          simp only [Bool.false_eq_true, if_false]
          exact stOk_mono (by omega) h5
      · unfold camT landT passT drainT
        simp only [hs, and_false, if_false, if_true]
        exact ⟨h5a, stOk_mono (by omega) h5⟩
    | false =>
      have hqq := hs rfl
      cases g0 with
      | true =>
        have h3 := h3 rfl rfl
        obtain ⟨h5a, h5⟩ := h5 rfl
        simp only [Bool.false_eq_true, if_false] at h5
        unfold camT landT passT drainT
        simp only [Bool.false_eq_true, false_and, if_false, Bool.true_eq_false, true_and]
        by_cases hr : resume ≤ (if a0 ≤ s0 then (0:Int) else b0) + long ∨ last = true
        · rw [if_pos hr]
          refine ⟨h5a, ?_⟩
          simp only [if_true]
          exact stOk_app (by omega) h5
        · rw [if_neg hr]
          exact ⟨h5a, h5⟩
      | false =>
        obtain ⟨h6a, h6b⟩ := h6 rfl
        subst h6a
        unfold camT landT passT drainT at hbg ⊢
        simp only [Bool.false_eq_true, false_and, if_false, true_and] at hbg ⊢
        by_cases hr : start ≤ b0 + long ∨ last = true
        · rw [if_pos hr] at hbg ⊢
          exact ⟨by simp only; omega, Int.le_refl _⟩
        · rw [if_neg hr] at hbg
          cases hbg
  · obtain ⟨⟨h1, h2, h3⟩, h4, h5, h6, h7⟩ := h
    clear hp hq hq1 hq2 ok' hat h7 h5
    obtain ⟨a0, b0, p0, g0, s0, e0, l0⟩ := s
    simp only at *
    intro hbg
    cases g0 with
    | true =>
      exfalso
      unfold camT landT passT drainT at hbg
      cases p0 <;> grind
    | false =>
      have hp0 : p0 = false := by cases p0 with | false => rfl | true => cases h2 rfl
      subst hp0
      obtain ⟨h6a, h6b⟩ := h6 rfl
      subst h6a
      unfold camT landT passT drainT at hbg ⊢
      simp only [Bool.false_eq_true, false_and, if_false, true_and] at hbg ⊢
      by_cases hr : start ≤ b0 + long ∨ last = true
      · rw [if_pos hr] at hbg; cases hbg
      · rw [if_neg hr]
        exact ⟨rfl, by simp only; omega⟩
  · intro hbg
    rw [hat, hp]
    obtain ⟨⟨h1, h2, h3⟩, h4, h5, h6, h7⟩ := h
    clear hp hq ok' hat
    obtain ⟨a0, b0, p0, g0, s0, e0, l0⟩ := s
    simp only at *
    cases p0 with
    | true =>
      obtain rfl := h2 rfl
      have h7 := h7 rfl
      simp only [if_true] at hq1 hp ⊢
      rw [hq1 (by omega), h7]
      unfold camT landT passT drainT
      by_cases hs : a0 + b0 < t
      · simp only [hs, and_self, if_true, Bool.false_eq_true, if_false, true_and, Bool.true_eq_false, false_and]
        by_cases hr : resume ≤ (if a0 ≤ a0 + b0 then (0:Int) else b0) + long ∨ last = true
        · rw [if_pos hr]; simp only; omega
        · rw [if_neg hr]; simp only; omega
      · simp only [hs, and_false, if_false, if_true]
        omega
    | false =>
      have hqq := hs rfl
      simp only [Bool.false_eq_true, if_false] at hq2 ⊢
      rw [hq2 (by omega)]
      cases g0 with
      | true =>
        have h3 := h3 rfl rfl
        have h7 := h7 rfl
        rw [h7]
        unfold camT landT passT drainT
        simp only [Bool.false_eq_true, false_and, if_false, Bool.true_eq_false, true_and]
        by_cases hr : resume ≤ (if a0 ≤ s0 then (0:Int) else b0) + long ∨ last = true
        · rw [if_pos hr]; simp only; omega
        · rw [if_neg hr]; simp only; omega
      | false =>
        obtain ⟨h6a, h6b⟩ := h6 rfl
        unfold camT landT passT drainT at hbg ⊢
        simp only [Bool.false_eq_true, false_and, if_false, true_and] at hbg ⊢
        by_cases hr : start ≤ b0 + long ∨ last = true
        · rw [if_pos hr]; simp only [pT, Bool.false_eq_true, if_false]; omega
        · rw [if_neg hr] at hbg; cases hbg
end Go.Proofs.YtfelgolfebhmkaaDoor
