/- Plain: what Run of the program gives, in one form: its choices, a right session, a run that goes well. Conditions as stated. -/
import Derived.Test.YtajadgpkmommmaaFolP
import Derived.Test.YtajadgpkmommmaaFilmS
import Derived.Test.YtajadgpkmommmaaRunGZ
import Derived.Test.YtajadgpkmommmaaWithP
namespace Go.Proofs.Ytajadgpkmommmaa
/-- What was stalled up to a time. -/
def stS (t : Int) : List (Int × Int) → Int
  | [] => 0
  | x :: r => max 0 (min t x.2 - x.1) + stS t r
theorem stS_app (t : Int) (x : Int × Int) : ∀ l, stS t (l ++ [x]) = stS t l + max 0 (min t x.2 - x.1)
  | [] => by simp [stS]
  | y :: r => by simp only [List.cons_append, stS, stS_app t x r]; omega
theorem stS_nn (t : Int) : ∀ l, 0 ≤ stS t l
  | [] => Int.le_refl _
  | x :: r => by have := stS_nn t r; simp only [stS]; omega
set_option linter.unusedVariables false in
theorem stS_end {t u : Int} : ∀ {l : List (Int × Int)}, (∀ x ∈ l, x.2 ≤ t) → (∀ x ∈ l, x.2 ≤ u) → stS t l = stS u l
  | [], _, _ => rfl
  | x :: r, h, h' => by
    have h1 := h x (List.mem_cons_self ..)
    have h2 := h' x (List.mem_cons_self ..)
    have := stS_end (l := r) (fun y hy => h y (List.mem_cons_of_mem _ hy)) (fun y hy => h' y (List.mem_cons_of_mem _ hy))
    simp only [stS, this]; omega
set_option linter.unusedVariables false in
theorem stS_beg {t : Int} : ∀ {l : List (Int × Int)}, (∀ x ∈ l, t ≤ x.1) → stS t l = 0
  | [], _ => rfl
  | x :: r, h => by
    have h1 := h x (List.mem_cons_self ..)
    have := stS_beg (l := r) (fun y hy => h y (List.mem_cons_of_mem _ hy))
    simp only [stS, this]; omega
/-- All stalls are over at a time, each behind the one before it, none ahead of b. -/
def stOk (b : Int) (e : Int) : List (Int × Int) → Prop
  | [] => b ≤ e
  | x :: r => b ≤ x.1 ∧ x.1 < x.2 ∧ stOk x.2 e r
set_option linter.unusedVariables false in
theorem stOk_le {e : Int} : ∀ {l : List (Int × Int)} {b : Int}, stOk b e l → b ≤ e
  | [], _, h => h
  | x :: r, b, h => by have := stOk_le h.2.2; have := h.1; have := h.2.1; omega
set_option linter.unusedVariables false in
theorem stOk_mono {e e' : Int} (he : e ≤ e') : ∀ {l : List (Int × Int)} {b : Int}, stOk b e l → stOk b e' l
  | [], b, h => by unfold stOk at *; omega
  | x :: r, b, h => ⟨h.1, h.2.1, stOk_mono he h.2.2⟩
set_option linter.unusedVariables false in
theorem stOk_app {e t : Int} (ht : e < t) : ∀ {l : List (Int × Int)} {b : Int}, stOk b e l → stOk b t (l ++ [(e, t)])
  | [], b, h => ⟨h, ht, Int.le_refl _⟩
  | x :: r, b, h => ⟨h.1, h.2.1, stOk_app ht h.2.2⟩
set_option linter.unusedVariables false in
theorem stOk_mem {e : Int} : ∀ {l : List (Int × Int)} {b : Int}, stOk b e l → ∀ x ∈ l, b ≤ x.1 ∧ x.1 < x.2 ∧ x.2 ≤ e
  | [], _, _, x, hx => by cases hx
  | y :: r, b, h, x, hx => by
    rcases List.mem_cons.1 hx with rfl | hx
    · exact ⟨h.1, h.2.1, stOk_le h.2.2⟩
    · have := stOk_mem h.2.2 x hx
      have h1 := h.1
      have h2 := h.2.1
      exact ⟨by omega, this.2.1, this.2.2⟩
/-- What was played up to a time. -/
def pT (s : WaT) (t : Int) : Int :=
  if s.begun = true then max 0 (t - s.beg) - stS t s.stalls - (if s.plays = true then 0 else max 0 (t - s.stalled)) else 0
/-- What holds of a player all the time, with all that has come. -/
structure okS (s : WaT) (first sum : Int) : Prop where
  ok : okW s
  fst : first ≤ s.at_
  beg : s.begun = true → first ≤ s.beg ∧ stOk s.beg (if s.plays = true then s.at_ else s.stalled) s.stalls
  none : s.begun = false → s.stalls = [] ∧ s.buf = sum
  done : s.begun = true → pT s s.at_ = sum - s.buf
theorem pT_past {s : WaT} {a b t : Int} (h : okS s a b) (ht : s.at_ ≤ t) : pT s t = pT s s.at_ + (if s.plays = true then t - s.at_ else 0) := by
  obtain ⟨⟨h1, h2, h3⟩, h4, h5, h6, h7⟩ := h
  unfold pT
  cases hb : s.begun with
  | false =>
    cases hp : s.plays with
    | false => simp
    | true => have := h2 hp; rw [hb] at this; cases this
  | true =>
    obtain ⟨_, h5⟩ := h5 hb
    cases hp : s.plays with
    | true =>
      rw [hp] at h5
      simp only [if_true] at h5 ⊢
      have hm := fun x hx => (stOk_mem h5 x hx).2.2
      rw [stS_end (t := t) (u := s.at_) (fun x hx => by have := hm x hx; omega) hm]
      have := stOk_le h5
      omega
    | false =>
      rw [hp] at h5
      have h3 := h3 hp hb
      simp only [Bool.false_eq_true, if_false, if_true] at h5 ⊢
      have hm := fun x hx => (stOk_mem h5 x hx).2.2
      rw [stS_end (t := t) (u := s.at_) (fun x hx => by have := hm x hx; omega) (fun x hx => by have := hm x hx; omega)]
      have := stOk_le h5
      omega
set_option linter.unusedVariables false in
/-- One segment more does not change what was played. -/
theorem pT_step {full start resume long t u a b : Int} {last : Bool} {s : WaT} (h : okS s a b) (ht : askT full long s ≤ t) (hu : u ≤ t) :
    pT (camT start resume long t last s) u = if s.plays = true then pT s (min u (s.at_ + s.buf)) else pT s u := by
  have hb := ask_bd (full := full) (long := long) h.ok
  obtain ⟨⟨h1, h2, h3⟩, h4, h5, h6, h7⟩ := h
  generalize askT full long s = q at *
  obtain ⟨a0, b0, p0, g0, s0, e0, l0⟩ := s
  simp only at *
  cases p0 with
  | true =>
    obtain rfl := h2 rfl
    obtain ⟨h5a, h5⟩ := h5 rfl
    simp only [if_true] at h5 ⊢
    have hle := stOk_le h5
    have hm := fun x hx => (stOk_mem h5 x hx).2.2
    by_cases hs : a0 + b0 < t
    · have e1 : stS (min u (a0 + b0)) l0 = stS u l0 := by
        by_cases hua : u ≤ a0 + b0
        · rw [show min u (a0 + b0) = u by omega]
        · exact stS_end (fun x hx => by have := hm x hx; omega) (fun x hx => by have := hm x hx; omega)
      unfold camT landT passT drainT pT
      simp only [hs, and_self, if_true, Bool.false_eq_true, if_false, true_and, Bool.true_eq_false, false_and, e1]
      by_cases hr : resume ≤ (if a0 ≤ a0 + b0 then (0:Int) else b0) + long ∨ last = true
      · rw [if_pos hr]
        simp only [if_true, stS_app]
        omega
      · rw [if_neg hr]
        simp only [if_true, Bool.false_eq_true, if_false]
        omega
    · unfold camT landT passT drainT pT
      simp only [hs, and_false, if_false, if_true]
      rw [show min u (a0 + b0) = u by omega]
  | false =>
    cases g0 with
    | true =>
      have h3 := h3 rfl rfl
      unfold camT landT passT drainT pT
      simp only [Bool.false_eq_true, false_and, if_false, Bool.true_eq_false, true_and]
      by_cases hr : resume ≤ (if a0 ≤ s0 then (0:Int) else b0) + long ∨ last = true
      · rw [if_pos hr]
        simp only [if_true, stS_app]
        omega
      · rw [if_neg hr]
        simp only [if_true, Bool.false_eq_true, if_false]
    | false =>
      obtain ⟨h6a, h6b⟩ := h6 rfl
      subst h6a
      unfold camT landT passT drainT pT
      simp only [Bool.false_eq_true, false_and, if_false, true_and]
      by_cases hr : start ≤ b0 + long ∨ last = true
      · rw [if_pos hr]
        simp only [if_true, stS]
        omega
      · rw [if_neg hr]
        simp only [Bool.false_eq_true, if_false]
theorem okS.came {full start resume long t a b : Int} {last : Bool} {s : WaT} (h : okS s a b) (hl : 0 ≤ long) (ht : askT full long s ≤ t) : okS (camT start resume long t last s) a (b + long) := by
  have hp := fun u hu => pT_step (start := start) (resume := resume) (last := last) (u := u) h ht hu
  have hq := fun u hu => pT_past (t := u) h hu
  have hb := ask_bd (full := full) (long := long) h.ok
  have ok' := h.ok.came (start := start) (resume := resume) (last := last) hl ht
  have hs := ask_still (full := full) (long := long) (s := s)
  have hat : (camT start resume long t last s).at_ = t := camT_at
  have hp := hp t (Int.le_refl _)
  have hq1 := hq (min t (s.at_ + s.buf))
  have hq2 := hq t
  refine ⟨ok', by rw [hat]; have := h.fst; omega, ?_, ?_, ?_⟩
  · obtain ⟨⟨h1, h2, h3⟩, h4, h5, h6, h7⟩ := h
    clear hp hq hq1 hq2 ok' hat h7
    generalize askT full long s = q at *
    obtain ⟨a0, b0, p0, g0, s0, e0, l0⟩ := s
    simp only at *
    intro hbg
    cases p0 with
    | true =>
      obtain rfl := h2 rfl
      obtain ⟨h5a, h5⟩ := h5 rfl
      simp only [if_true] at h5
      by_cases hs : a0 + b0 < t
      · unfold camT landT passT drainT
        simp only [hs, and_self, if_true, Bool.false_eq_true, if_false, true_and, Bool.true_eq_false, false_and]
        by_cases hr : resume ≤ (if a0 ≤ a0 + b0 then (0:Int) else b0) + long ∨ last = true
        · rw [if_pos hr]
          exact ⟨h5a, stOk_app hs (stOk_mono (by omega) h5)⟩
        · rw [if_neg hr]
          refine ⟨h5a, ?_⟩
          simp only [Bool.false_eq_true, if_false]
          exact stOk_mono (by omega) h5
      · unfold camT landT passT drainT
        simp only [hs, and_false, if_false, if_true]
        exact ⟨h5a, stOk_mono (by omega) h5⟩
    | false =>
      have hqq := hs rfl
      cases g0 with
      | true =>
        have h3 := h3 rfl rfl
        obtain ⟨h5a, h5⟩ := h5 rfl
        simp only [Bool.false_eq_true, if_false] at h5
        unfold camT landT passT drainT
        simp only [Bool.false_eq_true, false_and, if_false, Bool.true_eq_false, true_and]
        by_cases hr : resume ≤ (if a0 ≤ s0 then (0:Int) else b0) + long ∨ last = true
        · rw [if_pos hr]
          refine ⟨h5a, ?_⟩
          simp only [if_true]
          exact stOk_app (by omega) h5
        · rw [if_neg hr]
          exact ⟨h5a, h5⟩
      | false =>
        obtain ⟨h6a, h6b⟩ := h6 rfl
        subst h6a
        unfold camT landT passT drainT at hbg ⊢
        simp only [Bool.false_eq_true, false_and, if_false, true_and] at hbg ⊢
        by_cases hr : start ≤ b0 + long ∨ last = true
        · rw [if_pos hr] at hbg ⊢
          exact ⟨by simp only; omega, Int.le_refl _⟩
        · rw [if_neg hr] at hbg
          cases hbg
  · obtain ⟨⟨h1, h2, h3⟩, h4, h5, h6, h7⟩ := h
    clear hp hq hq1 hq2 ok' hat h7 h5
    obtain ⟨a0, b0, p0, g0, s0, e0, l0⟩ := s
    simp only at *
    intro hbg
    cases g0 with
    | true =>
      exfalso
      unfold camT landT passT drainT at hbg
      cases p0 <;> grind
    | false =>
      have hp0 : p0 = false := by cases p0 with | false => rfl | true => cases h2 rfl
      subst hp0
      obtain ⟨h6a, h6b⟩ := h6 rfl
      subst h6a
      unfold camT landT passT drainT at hbg ⊢
      simp only [Bool.false_eq_true, false_and, if_false, true_and] at hbg ⊢
      by_cases hr : start ≤ b0 + long ∨ last = true
      · rw [if_pos hr] at hbg; cases hbg
      · rw [if_neg hr]
        exact ⟨rfl, by simp only; omega⟩
  · intro hbg
    rw [hat, hp]
    obtain ⟨⟨h1, h2, h3⟩, h4, h5, h6, h7⟩ := h
    clear hp hq ok' hat
    obtain ⟨a0, b0, p0, g0, s0, e0, l0⟩ := s
    simp only at *
    cases p0 with
    | true =>
      obtain rfl := h2 rfl
      have h7 := h7 rfl
      simp only [if_true] at hq1 hp ⊢
      rw [hq1 (by omega), h7]
      unfold camT landT passT drainT
      by_cases hs : a0 + b0 < t
      · simp only [hs, and_self, if_true, Bool.false_eq_true, if_false, true_and, Bool.true_eq_false, false_and]
        by_cases hr : resume ≤ (if a0 ≤ a0 + b0 then (0:Int) else b0) + long ∨ last = true
        · rw [if_pos hr]; simp only; omega
        · rw [if_neg hr]; simp only; omega
      · simp only [hs, and_false, if_false, if_true]
        omega
    | false =>
      have hqq := hs rfl
      simp only [Bool.false_eq_true, if_false] at hq2 ⊢
      rw [hq2 (by omega)]
      cases g0 with
      | true =>
        have h3 := h3 rfl rfl
        have h7 := h7 rfl
        rw [h7]
        unfold camT landT passT drainT
        simp only [Bool.false_eq_true, false_and, if_false, Bool.true_eq_false, true_and]
        by_cases hr : resume ≤ (if a0 ≤ s0 then (0:Int) else b0) + long ∨ last = true
        · rw [if_pos hr]; simp only; omega
        · rw [if_neg hr]; simp only; omega
      | false =>
        obtain ⟨h6a, h6b⟩ := h6 rfl
        unfold camT landT passT drainT at hbg ⊢
        simp only [Bool.false_eq_true, false_and, if_false, true_and] at hbg ⊢
        by_cases hr : start ≤ b0 + long ∨ last = true
        · rw [if_pos hr]; simp only [pT, Bool.false_eq_true, if_false]; omega
        · rw [if_neg hr] at hbg; cases hbg
end Go.Proofs.Ytajadgpkmommmaa
namespace Go.Proofs.Ytajadgpkmommmaa
/-- A right session. -/
structure SesOk (L : List Int) (m : Nat) (ch asd arr : List Int) (beg : Int) (sts : List (Int × Int)) (en : Int) : Prop where
  l0 : 0 < L.length
  l1 : L.length ≤ 200
  lr : ∀ i, i < L.length → 0 ≤ L.getD i 0 ∧ L.getD i 0 ≤ 1000000000
  lc : ch.length = L.length
  la : asd.length = L.length
  le : arr.length = L.length
  cr : ∀ i, i < L.length → 0 ≤ ch.getD i 0 ∧ ch.getD i 0 < m
  ar : ∀ i, i < L.length → 0 ≤ asd.getD i 0 ∧ asd.getD i 0 ≤ arr.getD i 0 ∧ arr.getD i 0 ≤ 2000000000000
  od : ∀ i, i + 1 < L.length → arr.getD i 0 ≤ asd.getD (i + 1) 0
  b0 : arr.getD 0 0 ≤ beg
  b1 : beg ≤ 2000000000000
  few : sts.length ≤ L.length
  sr : ∀ k, k < sts.length → (sts.getD k (0, 0)).1 < (sts.getD k (0, 0)).2 ∧ (sts.getD k (0, 0)).2 ≤ 2000000000000 ∧ beg ≤ (sts.getD k (0, 0)).1
  so : ∀ k, k + 1 < sts.length → (sts.getD k (0, 0)).2 ≤ (sts.getD (k + 1) (0, 0)).1
  e0 : 0 ≤ en
  e1 : en ≤ 2000000000000
  es : en = beg + (sts.map fun x => x.2 - x.1).sum + L.sum
/-- What has come at a time, of the first so many. -/
def levK (arr L : List Int) (t : Int) : Nat → Int
  | 0 => 0
  | k + 1 => if arr.getD k 0 ≤ t then levK arr L t k + L.getD k 0 else levK arr L t k
theorem levK_all {arr L : List Int} {t : Int} : ∀ n, n ≤ L.length → (∀ i, i < n → arr.getD i 0 ≤ t) → levK arr L t n = sumI L n
  | 0, _, _ => rfl
  | n + 1, hn, h => by
    rw [sumI_succ (by omega), ← levK_all n (by omega) (fun i hi => h i (by omega))]
    show (if _ then _ else _) = _
    rw [if_pos (h n (by omega))]
theorem levK_more {arr L : List Int} {t : Int} {n : Nat} : ∀ m, (∀ i, n ≤ i → i < n + m → t < arr.getD i 0) → levK arr L t (n + m) = levK arr L t n
  | 0, _ => rfl
  | m + 1, h => by
    rw [← levK_more m (fun i h1 h2 => h i h1 (by omega))]
    exact if_neg (show ¬ arr.getD (n + m) 0 ≤ t by have := h (n + m) (by omega) (by omega); omega)
theorem stOk_get {e : Int} : ∀ {l : List (Int × Int)} {b : Int}, stOk b e l → (∀ k, k < l.length → (l.getD k (0, 0)).1 < (l.getD k (0, 0)).2 ∧ (l.getD k (0, 0)).2 ≤ e ∧ b ≤ (l.getD k (0, 0)).1) ∧ (∀ k, k + 1 < l.length → (l.getD k (0, 0)).2 ≤ (l.getD (k + 1) (0, 0)).1)
  | [], _, _ => ⟨fun k hk => absurd hk (Nat.not_lt_zero _), fun k hk => absurd hk (Nat.not_lt_zero _)⟩
  | x :: r, b, h => by
    obtain ⟨h1, h2, h3⟩ := h
    obtain ⟨g1, g2⟩ := stOk_get h3
    have hle := stOk_le h3
    refine ⟨fun k hk => ?_, fun k hk => ?_⟩
    · cases k with
      | zero => exact ⟨h2, hle, h1⟩
      | succ k =>
        have := g1 k (by simpa using hk)
        simp only [List.getD_cons_succ]
        omega
    · cases k with
      | zero => 
        have := g1 0 (by simpa using hk)
        simp only [List.getD_cons_succ, List.getD_cons_zero]
        exact this.2.2
      | succ k =>
        have := g2 k (by simpa using hk)
        simpa only [List.getD_cons_succ] using this
theorem stS_sum {t : Int} : ∀ {l : List (Int × Int)}, (∀ x ∈ l, x.1 < x.2 ∧ x.2 ≤ t) → stS t l = (l.map fun x => x.2 - x.1).sum
  | [], _ => rfl
  | x :: r, h => by
    have h1 := h x (List.mem_cons_self ..)
    have := stS_sum (l := r) (fun y hy => h y (List.mem_cons_of_mem _ hy))
    simp only [stS, this, List.map_cons, List.sum_cons]; omega
theorem plays_last {start resume long t : Int} {s : WaT} : (camT start resume long t true s).plays = true ∧ (okW s → (camT start resume long t true s).begun = true) := by
  obtain ⟨a0, b0, p0, g0, s0, e0, l0⟩ := s
  unfold camT landT passT drainT okW
  cases p0 <;> cases g0 <;> grind
section
variable {full start resume : Int} {L : List Int} {S : List (List Int)} {pk : Nat → Int → Int → List (Int × Int) → Int → Int} {av : Int → Int → Int} {M D : Int}
theorem fol_gets : ∀ n i, i < n → (folF full start resume L S pk av n).asd.getD i 0 = asN full start resume L S pk av i ∧ (folF full start resume L S pk av n).arr.getD i 0 = tN full start resume L S pk av i ∧ (folF full start resume L S pk av n).ch.getD i 0 = rN full start resume L S pk av i
    ∧ (folF full start resume L S pk av n).asd.length = n ∧ (folF full start resume L S pk av n).arr.length = n ∧ (folF full start resume L S pk av n).ch.length = n
  | 0, i, h => absurd h (Nat.not_lt_zero _)
  | n + 1, i, h => by
    have hl : (folF full start resume L S pk av n).asd.length = n ∧ (folF full start resume L S pk av n).arr.length = n ∧ (folF full start resume L S pk av n).ch.length = n := by
      cases n with
      | zero => exact ⟨rfl, rfl, rfl⟩
      | succ n => exact (fol_gets (n + 1) 0 (by omega)).2.2.2
    have e1 : (folF full start resume L S pk av (n + 1)).asd = (folF full start resume L S pk av n).asd ++ [asN full start resume L S pk av n] := rfl
    have e2 : (folF full start resume L S pk av (n + 1)).arr = (folF full start resume L S pk av n).arr ++ [tN full start resume L S pk av n] := rfl
    have e3 : (folF full start resume L S pk av (n + 1)).ch = (folF full start resume L S pk av n).ch ++ [rN full start resume L S pk av n] := rfl
    obtain ⟨l1, l2, l3⟩ := hl
    refine ⟨?_, ?_, ?_, by rw [e1]; simp [l1], by rw [e2]; simp [l2], by rw [e3]; simp [l3]⟩
    all_goals
      first | rw [e1] | rw [e2] | rw [e3]
      by_cases hi : i < n
      · have := fol_gets n i hi
        simp only [List.getD_eq_getElem?_getD] at this ⊢
        rw [List.getElem?_append_left (by omega)]
        first | exact this.1 | exact this.2.1 | exact this.2.2.1
      · obtain rfl : i = n := by omega
        simp only [List.getD_eq_getElem?_getD]
        rw [List.getElem?_append_right (by omega)]
        simp [l1, l2, l3]
theorem fol_w (n : Nat) : (folF full start resume L S pk av (n + 1)).w = camT start resume (L.getD n 0) (tN full start resume L S pk av n) (decide (n + 1 = L.length)) (folF full start resume L S pk av n).w := rfl
theorem fol_at (n : Nat) : (folF full start resume L S pk av (n + 1)).w.at_ = tN full start resume L S pk av n := by rw [fol_w, camT_at]
theorem RunOk.step (h : RunOk full start resume L S pk av M D) {n : Nat} (hn : n < L.length) : okW (folF full start resume L S pk av n).w ∧ (0 ≤ rN full start resume L S pk av n ∧ rN full start resume L S pk av n < S.length) ∧ 0 ≤ (folF full start resume L S pk av n).w.at_ ∧ (folF full start resume L S pk av n).w.at_ ≤ asN full start resume L S pk av n ∧ asN full start resume L S pk av n ≤ tN full start resume L S pk av n := by
  obtain ⟨h1, h2, h3, h4⟩ := h.all n (by omega)
  have hf := h.few
  obtain ⟨c0, c1, c2⟩ := h.comes n hn h1 h2 (by omega)
  exact ⟨h1, c0, h2, (ask_bd h1).1, c1⟩
theorem fol_okS0 (h : RunOk full start resume L S pk av M D) : ∀ n, n ≤ L.length → okS (folF full start resume L S pk av n).w 0 (sumI L n)
  | 0, _ => ⟨okW.zero, Int.le_refl _, (fun h => Bool.noConfusion h), (fun _ => ⟨rfl, rfl⟩), (fun h => Bool.noConfusion h)⟩
  | n + 1, hn => by
    have ih := fol_okS0 h n (by omega)
    obtain ⟨_, _, _, _, h1⟩ := h.step (show n < L.length by omega)
    rw [sumI_succ (by omega), fol_w]
    exact ih.came (h.longs n (by omega)).1 h1
theorem okS_first {start resume long t b : Int} {last : Bool} (h : okS (camT start resume long t last WaT.zero) 0 b) : okS (camT start resume long t last WaT.zero) t b := by
  refine ⟨h.ok, by rw [camT_at]; exact Int.le_refl _, fun hb => ⟨?_, (h.beg hb).2⟩, h.none, h.done⟩
  unfold camT landT passT drainT WaT.zero at hb ⊢
  grind
theorem fol_okS (h : RunOk full start resume L S pk av M D) : ∀ n, n + 1 ≤ L.length → okS (folF full start resume L S pk av (n + 1)).w (tN full start resume L S pk av 0) (sumI L (n + 1))
  | 0, hn => okS_first (fol_okS0 h 1 hn)
  | n + 1, hn => by
    have ih := fol_okS h n (by omega)
    obtain ⟨_, _, _, _, h1⟩ := h.step (show n + 1 < L.length by omega)
    rw [sumI_succ (by omega), fol_w]
    exact ih.came (h.longs (n + 1) (by omega)).1 h1
theorem at_mono (h : RunOk full start resume L S pk av M D) (n : Nat) : ∀ m, n + m ≤ L.length → (folF full start resume L S pk av n).w.at_ ≤ (folF full start resume L S pk av (n + m)).w.at_
  | 0, _ => Int.le_refl _
  | m + 1, hm => by
    have := at_mono h n m (by omega)
    obtain ⟨_, _, _, h2, h3⟩ := h.step (show n + m < L.length by omega)
    rw [show n + (m + 1) = n + m + 1 by omega, fol_at]
    omega
theorem pT_later (h : RunOk full start resume L S pk av M D) (n : Nat) {u : Int} (hu : u ≤ (folF full start resume L S pk av n).w.at_) : ∀ m, n + m ≤ L.length → pT (folF full start resume L S pk av (n + m)).w u = pT (folF full start resume L S pk av n).w u
  | 0, _ => rfl
  | m + 1, hm => by
    rw [← pT_later h n hu m (by omega)]
    have ha := at_mono h n m (by omega)
    obtain ⟨_, _, _, h2, h3⟩ := h.step (show n + m < L.length by omega)
    have hs := fol_okS0 h (n + m) (by omega)
    have hb := hs.ok.1
    rw [show n + (m + 1) = n + m + 1 by omega, fol_w, pT_step (full := full) (long := L.getD (n + m) 0) hs h3 (by omega)]
    by_cases hp : (folF full start resume L S pk av (n + m)).w.plays = true
    · rw [if_pos hp]; congr 1; omega
    · rw [if_neg hp]
theorem end_all (h : RunOk full start resume L S pk av M D) (h0 : 0 < L.length) : (folF full start resume L S pk av L.length).w.plays = true ∧ (folF full start resume L S pk av L.length).w.begun = true := by
  obtain ⟨n, hn⟩ : ∃ n, L.length = n + 1 := ⟨L.length - 1, by omega⟩
  rw [hn, fol_w, show decide (n + 1 = L.length) = true by simp [hn]]
  exact ⟨plays_last.1, plays_last.2 (h.all n (by omega)).1⟩
/-- What was played, by the session alone. -/
def plyP (beg : Int) (sts : List (Int × Int)) (en t : Int) : Int := max 0 (min t en - beg) - stS t sts
theorem ply_eq (h : RunOk full start resume L S pk av M D) (h0 : 0 < L.length) {t : Int} (ht : t ≤ (folF full start resume L S pk av L.length).w.at_ + (folF full start resume L S pk av L.length).w.buf) :
    plyP (folF full start resume L S pk av L.length).w.beg (folF full start resume L S pk av L.length).w.stalls ((folF full start resume L S pk av L.length).w.at_ + (folF full start resume L S pk av L.length).w.buf) t = pT (folF full start resume L S pk av L.length).w t := by
  obtain ⟨hp, hb⟩ := end_all h h0
  unfold plyP pT
  rw [if_pos hb, if_pos hp, show min t ((folF full start resume L S pk av L.length).w.at_ + (folF full start resume L S pk av L.length).w.buf) = t by omega]
  omega
/-- What is in the buffer, by the session alone. -/
theorem bal_eq (h : RunOk full start resume L S pk av M D) {n : Nat} (hn : n < L.length) {t : Int} (h1 : (folF full start resume L S pk av n).w.at_ ≤ t) (h2 : t < tN full start resume L S pk av n)
    (hE : t ≤ (folF full start resume L S pk av L.length).w.at_ + (folF full start resume L S pk av L.length).w.buf) :
    levK (folF full start resume L S pk av L.length).arr L t L.length - plyP (folF full start resume L S pk av L.length).w.beg (folF full start resume L S pk av L.length).w.stalls ((folF full start resume L S pk av L.length).w.at_ + (folF full start resume L S pk av L.length).w.buf) t = bufT (folF full start resume L S pk av n).w t := by
  have hlv : levK (folF full start resume L S pk av L.length).arr L t L.length = sumI L n := by
    have e := levK_more (arr := (folF full start resume L S pk av L.length).arr) (L := L) (t := t) (n := n) (L.length - n) (fun i hi hi2 => by
      rw [(fol_gets L.length i (by omega)).2.1]
      have := at_mono h (n + 1) (i + 1 - (n + 1)) (by omega)
      rw [show n + 1 + (i + 1 - (n + 1)) = i + 1 by omega, fol_at, fol_at] at this
      omega)
    rw [show n + (L.length - n) = L.length by omega] at e
    rw [e]
    refine levK_all n (by omega) fun i hi => ?_
    rw [(fol_gets L.length i (by omega)).2.1]
    have := at_mono h (i + 1) (n - (i + 1)) (by omega)
    rw [show i + 1 + (n - (i + 1)) = n by omega, fol_at] at this
    omega
  have hs := fol_okS0 h n (by omega)
  obtain ⟨_, _, _, h3, h4⟩ := h.step hn
  have hb := hs.ok.1
  have hl := pT_later h (n + 1) (u := t) (by rw [fol_at]; omega) (L.length - (n + 1)) (by omega)
  rw [show n + 1 + (L.length - (n + 1)) = L.length by omega] at hl
  rw [hlv, ply_eq h (by omega) hE, hl, fol_w, pT_step (full := full) (long := L.getD n 0) hs h4 (by omega)]
  have hd := hs.done
  have hno := hs.none
  have hok := hs.ok
  have hpa := fun u hu => pT_past (t := u) hs hu
  generalize folF full start resume L S pk av n = F at *
  unfold bufT
  by_cases hp : F.w.plays = true
  · have hbg := hok.2.1 hp
    rw [if_pos hp, if_pos hp, hpa _ (by omega), hd hbg, if_pos hp]
    omega
  · rw [if_neg hp, if_neg hp, hpa _ h1, if_neg hp]
    by_cases hbg : F.w.begun = true
    · rw [hd hbg]; omega
    · have := hno (by simpa using hbg)
      rw [pT, if_neg hbg]; omega
theorem bal_end (h : RunOk full start resume L S pk av M D) (h0 : 0 < L.length) {t : Int} (h1 : (folF full start resume L S pk av L.length).w.at_ ≤ t)
    (hE : t ≤ (folF full start resume L S pk av L.length).w.at_ + (folF full start resume L S pk av L.length).w.buf) :
    levK (folF full start resume L S pk av L.length).arr L t L.length - plyP (folF full start resume L S pk av L.length).w.beg (folF full start resume L S pk av L.length).w.stalls ((folF full start resume L S pk av L.length).w.at_ + (folF full start resume L S pk av L.length).w.buf) t = (folF full start resume L S pk av L.length).w.at_ + (folF full start resume L S pk av L.length).w.buf - t := by
  rw [ply_eq h h0 hE, levK_all L.length (Nat.le_refl _) (fun i hi => by
    rw [(fol_gets L.length i (by omega)).2.1]
    have := at_mono h (i + 1) (L.length - (i + 1)) (by omega)
    rw [show i + 1 + (L.length - (i + 1)) = L.length by omega, fol_at] at this
    omega)]
  obtain ⟨hp, hb⟩ := end_all h h0
  have hs := fol_okS0 h L.length (by omega)
  rw [pT_past hs h1, if_pos hp, hs.done hb]
  omega
/-- The buffer is never below nothing. -/
theorem bal_nn (h : RunOk full start resume L S pk av M D) (h0 : 0 < L.length) {t : Int} (ht : 0 ≤ t)
    (hE : t ≤ (folF full start resume L S pk av L.length).w.at_ + (folF full start resume L S pk av L.length).w.buf) :
    0 ≤ levK (folF full start resume L S pk av L.length).arr L t L.length - plyP (folF full start resume L S pk av L.length).w.beg (folF full start resume L S pk av L.length).w.stalls ((folF full start resume L S pk av L.length).w.at_ + (folF full start resume L S pk av L.length).w.buf) t := by
  have key : ∀ n, n ≤ L.length → (folF full start resume L S pk av n).w.at_ ≤ t ∨ ∃ k, k < n ∧ (folF full start resume L S pk av k).w.at_ ≤ t ∧ t < tN full start resume L S pk av k := by
    intro n
    induction n with
    | zero => intro _; exact Or.inl ht
    | succ n ih =>
      intro hn
      rcases ih (by omega) with h1 | ⟨k, hk, h1⟩
      · by_cases h2 : t < tN full start resume L S pk av n
        · exact Or.inr ⟨n, by omega, h1, h2⟩
        · left; rw [fol_at]; omega
      · exact Or.inr ⟨k, by omega, h1⟩
  rcases key L.length (Nat.le_refl _) with h1 | ⟨k, hk, h1, h2⟩
  · rw [bal_end h h0 h1 hE]; omega
  · rw [bal_eq h hk h1 h2 hE]
    have := (h.all k (by omega)).1.1
    unfold bufT
    split <;> omega
theorem stalls_few (n : Nat) : (folF full start resume L S pk av n).w.stalls.length ≤ n := by
  induction n with
  | zero => exact Nat.le_refl _
  | succ n ih =>
    rw [fol_w]
    have : ∀ (start resume long t : Int) (last : Bool) (s : WaT), (camT start resume long t last s).stalls.length ≤ s.stalls.length + 1 := by
      intro start resume long t last s
      unfold camT landT passT
      grind
    have := this start resume (L.getD n 0) (tN full start resume L S pk av n) (decide (n + 1 = L.length)) (folF full start resume L S pk av n).w
    omega
/-- The session is right. -/
theorem ses_ok (h : RunOk full start resume L S pk av M D) (h0 : 0 < L.length) (hM : M + 200 * D ≤ 1500000000000) :
    SesOk L S.length (folF full start resume L S pk av L.length).ch (folF full start resume L S pk av L.length).asd (folF full start resume L S pk av L.length).arr (folF full start resume L S pk av L.length).w.beg (folF full start resume L S pk av L.length).w.stalls ((folF full start resume L S pk av L.length).w.at_ + (folF full start resume L S pk av L.length).w.buf) := by
  have hg := fun i hi => fol_gets (full := full) (start := start) (resume := resume) (L := L) (S := S) (pk := pk) (av := av) L.length i hi
  obtain ⟨_, hat0, hN, hN2⟩ := h.all L.length (Nat.le_refl _)
  have hf := h.few
  have hD := h.d0
  have hD2 : (L.length : Int) * D ≤ 200 * D := Int.mul_le_mul_of_nonneg_right (by omega) hD
  obtain ⟨m, hm⟩ : ∃ m, L.length = m + 1 := ⟨L.length - 1, by omega⟩
  have hs : okS (folF full start resume L S pk av L.length).w (tN full start resume L S pk av 0) (sumI L L.length) := by rw [hm]; exact fol_okS h m (by omega)
  have hs0 := hs.ok.1
  obtain ⟨hp, hb⟩ := end_all h h0
  obtain ⟨hb1, hb2⟩ := hs.beg hb
  rw [if_pos hp] at hb2
  have hle := stOk_le hb2
  have hge := stOk_get hb2
  have hdn := hs.done hb
  have htn : ∀ i, i < L.length → tN full start resume L S pk av i ≤ (folF full start resume L S pk av L.length).w.at_ := fun i hi => by
    have := at_mono h (i + 1) (L.length - (i + 1)) (by omega)
    rw [show i + 1 + (L.length - (i + 1)) = L.length by omega, fol_at] at this
    exact this
  refine ⟨h0, hf, h.longs, (hg 0 h0).2.2.2.2.2, (hg 0 h0).2.2.2.1, (hg 0 h0).2.2.2.2.1, fun i hi => ?_, fun i hi => ?_, fun i hi => ?_, ?_, by omega, stalls_few _, fun k hk => ?_, hge.2, by omega, by omega, ?_⟩
  · rw [(hg i hi).2.2.1]; exact (h.step hi).2.1
  · rw [(hg i hi).1, (hg i hi).2.1]
    have := h.step hi
    have := htn i hi
    omega
  · rw [(hg (i + 1) hi).1, (hg i (by omega)).2.1]
    have := (h.step hi).2.2.2.1
    rw [fol_at] at this
    exact this
  · rw [(hg 0 h0).2.1]; exact hb1
  · have := hge.1 k hk
    omega
  · have e : stS (folF full start resume L S pk av L.length).w.at_ (folF full start resume L S pk av L.length).w.stalls = ((folF full start resume L S pk av L.length).w.stalls.map fun x => x.2 - x.1).sum := stS_sum fun x hx => ⟨(stOk_mem hb2 x hx).2.1, (stOk_mem hb2 x hx).2.2⟩
    rw [pT, if_pos hb, if_pos hp, e, show sumI L L.length = L.sum from by unfold sumI; rw [List.take_length]] at hdn
    omega
end
end Go.Proofs.Ytajadgpkmommmaa
namespace Go.Proofs.Ytajadgpkmommmaa
open Go.RowKit
section
variable {lA : Option Addr} {ln lc : Nat} {sA : Option Addr} {sn sc : Nat} {qA : Option Addr} {qn qc : Nat} {L : List Int} {S : List (List Int)} {Q : List Int} {d0 s0 r0 f0 i0 k0 l0 t0 lo0 hi0 a0 x0 y0 z0 : Int} {w : World} {T : List (Int × Int)} {C : List Int}
theorem fol_chC (hC : C.length = L.length) : (folF f0 s0 r0 L S (gvF C) (trF T d0) L.length).ch = C := by
  by_cases h0 : L.length = 0
  · rw [h0]
    have : C = [] := List.eq_nil_of_length_eq_zero (by omega)
    rw [this]; rfl
  have hl := (fol_gets (full := f0) (start := s0) (resume := r0) (L := L) (S := S) (pk := gvF C) (av := trF T d0) L.length 0 (by omega)).2.2.2.2.2
  apply List.ext_getElem (by rw [hl, hC])
  intro i h1 h2
  have hg := (fol_gets (full := f0) (start := s0) (resume := r0) (L := L) (S := S) (pk := gvF C) (av := trF T d0) L.length i (by omega)).2.2.1
  have e1 : rN f0 s0 r0 L S (gvF C) (trF T d0) i = C.getD i 0 := rfl
  rw [e1] at hg
  simp only [List.getD_eq_getElem?_getD] at hg
  rw [List.getElem?_eq_getElem h1, List.getElem?_eq_getElem h2] at hg
  simpa using hg
theorem rng_ok {lo hi : Int} : ∀ l : List Int, (∀ i, i < l.length → lo ≤ l.getD i 0 ∧ l.getD i 0 ≤ hi) → rngB lo hi l = false
  | [], _ => rfl
  | y :: r, h => by
    have h0 := h 0 (by simp)
    rw [rngB_cons, rng_ok r (fun i hi2 => by have := h (i + 1) (by simp; omega); simpa using this)]
    simp at h0 ⊢
    omega
theorem chs_ok (hC : C.length = L.length) (hk : okC S.length C) : chsF L.length S.length C = 0 := by
  unfold chsF
  rw [if_neg (by omega)]
  rw [rng_ok C (fun i hi => by have := hk i; omega), if_neg (by simp)]
theorem run_form {e : Ending} {w' : World} (hu : runF L S Q T d0 s0 r0 f0 i0 k0 l0 t0 lo0 hi0 a0 x0 y0 z0 = 0) (h : RunGives w (runF L S Q T d0 s0 r0 f0 i0 k0 l0 t0 lo0 hi0 a0 x0 y0 z0) L S T d0 s0 r0 f0 i0 k0 l0 t0 lo0 hi0 a0 x0 y0 z0 e w') :
    ∃ (C : List Int) (cA : Option Addr) (cc : Nat) (aA : Option Addr) (ac : Nat) (rA : Option Addr) (rc : Nat) (tA : Option Addr) (tc : Nat),
      e = .returned (.tuple #[.agg #[.slice cA L.length cc, .slice aA L.length ac, .slice rA L.length rc, .int .i64 (folF f0 s0 r0 L S (gvF C) (trF T d0) L.length).w.beg, .slice tA (folF f0 s0 r0 L S (gvF C) (trF T d0) L.length).w.stalls.length tc, .int .i64 ((folF f0 s0 r0 L S (gvF C) (trF T d0) L.length).w.at_ + (folF f0 s0 r0 L S (gvF C) (trF T d0) L.length).w.buf)], .int .i64 0]) ∧
      (C.length = L.length ∧ okC S.length C ∧ withF L S Q T C d0 s0 r0 f0 i0 k0 l0 t0 lo0 hi0 a0 x0 y0 z0 = 0 ∧ (folF f0 s0 r0 L S (gvF C) (trF T d0) L.length).ch = C ∧ (∀ n, n < L.length → (fun n F r => (n = 0 → r = i0) ∧ (0 < n → k0 = 2 → r = rateC (ratesL L S) (sumB (F.loads.drop (F.loads.length - l0.toNat))) (sumG (F.loads.drop (F.loads.length - l0.toNat))) t0)) n (folF f0 s0 r0 L S (gvF C) (trF T d0) n) (C.getD n 0))) ∧
      (At w' 1 e64 cA L.length cc C ∧ At w' 1 e64 aA L.length ac (folF f0 s0 r0 L S (gvF C) (trF T d0) L.length).asd ∧ At w' 1 e64 rA L.length rc (folF f0 s0 r0 L S (gvF C) (trF T d0) L.length).arr ∧ At w' 2 e2 tA (folF f0 s0 r0 L S (gvF C) (trF T d0) L.length).w.stalls.length tc (folF f0 s0 r0 L S (gvF C) (trF T d0) L.length).w.stalls) ∧ Ext w w' ∧
      SesOk L S.length C (folF f0 s0 r0 L S (gvF C) (trF T d0) L.length).asd (folF f0 s0 r0 L S (gvF C) (trF T d0) L.length).arr (folF f0 s0 r0 L S (gvF C) (trF T d0) L.length).w.beg (folF f0 s0 r0 L S (gvF C) (trF T d0) L.length).w.stalls ((folF f0 s0 r0 L S (gvF C) (trF T d0) L.length).w.at_ + (folF f0 s0 r0 L S (gvF C) (trF T d0) L.length).w.buf) ∧ RunOk f0 s0 r0 L S (gvF C) (trF T d0) 1000000000000 1000100000 := by
  obtain ⟨hx, _, hg⟩ := h
  obtain ⟨C, v, ⟨hC1, hC2, hC3⟩, rfl, ⟨cA, cc, aA, ac, rA, rc, tA, tc, rfl, m1, m2, m3, m4, _⟩, l1, l2, l3, _⟩ := hg hu
  obtain ⟨hF, hT, hd, _⟩ := runF_zero hu
  have hR := run_traceC (f0 := f0) (s0 := s0) (r0 := r0) hF hT hd hC2
  have hS := ses_ok hR (filmF_ok hF).l0 (by omega)
  rw [l1] at m1
  rw [l2] at m2
  rw [l3] at m3
  rw [fol_chC hC1] at m1 hS
  exact ⟨C, cA, cc, aA, ac, rA, rc, tA, tc, by rw [l1, l2, l3], ⟨hC1, hC2, by unfold withF; rw [if_neg (by omega)]; exact chs_ok hC1 hC2, fol_chC hC1, hC3⟩, ⟨m1, m2, m3, m4⟩, hx, hS, hR⟩
theorem with_form0 {e : Ending} {w' : World} (hw : withF L S Q T C d0 s0 r0 f0 i0 k0 l0 t0 lo0 hi0 a0 x0 y0 z0 = 0) (hC : C.length = L.length) (h : WithGives w (withF L S Q T C d0 s0 r0 f0 i0 k0 l0 t0 lo0 hi0 a0 x0 y0 z0) L.length (folF f0 s0 r0 L S (gvF C) (trF T d0) L.length) e w') :
    ∃ (cA : Option Addr) (cc : Nat) (aA : Option Addr) (ac : Nat) (rA : Option Addr) (rc : Nat) (tA : Option Addr) (tc : Nat),
      e = .returned (.tuple #[.agg #[.slice cA L.length cc, .slice aA L.length ac, .slice rA L.length rc, .int .i64 (folF f0 s0 r0 L S (gvF C) (trF T d0) L.length).w.beg, .slice tA (folF f0 s0 r0 L S (gvF C) (trF T d0) L.length).w.stalls.length tc, .int .i64 ((folF f0 s0 r0 L S (gvF C) (trF T d0) L.length).w.at_ + (folF f0 s0 r0 L S (gvF C) (trF T d0) L.length).w.buf)], .int .i64 0]) ∧
      (At w' 1 e64 cA L.length cc C ∧ At w' 1 e64 aA L.length ac (folF f0 s0 r0 L S (gvF C) (trF T d0) L.length).asd ∧ At w' 1 e64 rA L.length rc (folF f0 s0 r0 L S (gvF C) (trF T d0) L.length).arr ∧ At w' 2 e2 tA (folF f0 s0 r0 L S (gvF C) (trF T d0) L.length).w.stalls.length tc (folF f0 s0 r0 L S (gvF C) (trF T d0) L.length).w.stalls) ∧ Ext w w' := by
  obtain ⟨hx, _, hg⟩ := h
  obtain ⟨v, rfl, ⟨cA, cc, aA, ac, rA, rc, tA, tc, rfl, m1, m2, m3, m4, _⟩, l1, l2, l3, _⟩ := hg hw
  rw [l1] at m1
  rw [l2] at m2
  rw [l3] at m3
  rw [fol_chC hC] at m1
  exact ⟨cA, cc, aA, ac, rA, rc, tA, tc, by rw [l1, l2, l3], ⟨m1, m2, m3, m4⟩, hx⟩
end
end Go.Proofs.Ytajadgpkmommmaa
