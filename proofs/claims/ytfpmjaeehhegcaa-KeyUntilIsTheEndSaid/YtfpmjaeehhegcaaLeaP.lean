/- Leases of seats in plain words, and why they are few. No condition. -/
import Init
namespace Go.Proofs.Ytfpmjaeehhegcaa
section
variable {σ : Type} [DecidableEq σ]
/-- Seats: a user, how many leases, how long one lasts. -/
abbrev SeatT (σ : Type) := σ × Int × Int
/-- A lease that is held: a user, a session, until when. -/
abbrev HeldT (σ : Type) := σ × σ × Int
/-- An ask: a time, a user, a session, a kind. -/
abbrev AskT (σ : Type) := Int × σ × σ × Int
def seatP (u : σ) (s : SeatT σ) : Bool := decide (s.1 = u)
def heldP (u s : σ) (t : Int) (h : HeldT σ) : Bool := decide (h.1 = u ∧ h.2.1 = s ∧ t < h.2.2)
def lastP (u : σ) (t : Int) (h : HeldT σ) : Bool := decide (h.1 = u ∧ t < h.2.2)
def lastN (hs : List (HeldT σ)) (u : σ) (t : Int) : Nat := hs.countP (lastP u t)
/-- The answer to an ask (a fault, a time), and the leases behind it. -/
def ansF (l : List (SeatT σ)) (hs : List (HeldT σ)) (a : AskT σ) : (Int × Int) × List (HeldT σ) :=
  match l.findIdx? (seatP a.2.1) with
  | none => ((14, 0), hs)
  | some k =>
    match hs.findIdx? (heldP a.2.1 a.2.2.1 a.1) with
    | none =>
      if a.2.2.2 ≠ 1 then ((11, 0), hs)
      else if (l.map fun s => s.2.1).getD k 0 ≤ (lastN hs a.2.1 a.1 : Int) then ((17, 0), hs)
      else ((0, a.1 + (l.map fun s => s.2.2).getD k 0), hs ++ [(a.2.1, a.2.2.1, a.1 + (l.map fun s => s.2.2).getD k 0)])
    | some i =>
      if a.2.2.2 = 3 then ((0, a.1), hs.set i (a.2.1, a.2.2.1, a.1))
      else ((0, a.1 + (l.map fun s => s.2.2).getD k 0), hs.set i (a.2.1, a.2.2.1, a.1 + (l.map fun s => s.2.2).getD k 0))
/-- The leases behind some asks. -/
def heldsF (l : List (SeatT σ)) (asks : List (AskT σ)) : List (HeldT σ) := asks.foldl (fun hs a => (ansF l hs a).2) []
theorem heldsF_snoc (l : List (SeatT σ)) (asks : List (AskT σ)) (a : AskT σ) : heldsF l (asks ++ [a]) = (ansF l (heldsF l asks) a).2 := by simp [heldsF]
def mostOf (l : List (SeatT σ)) (k : Nat) : Int := (l.map fun s => s.2.1).getD k 0
def longOf (l : List (SeatT σ)) (k : Nat) : Int := (l.map fun s => s.2.2).getD k 0
/-- Nobody has more leases than seats. -/
def FewAt (l : List (SeatT σ)) (hs : List (HeldT σ)) (t : Int) : Prop :=
  ∀ u, (l.findIdx? (seatP u) = none → ∀ h ∈ hs, h.1 ≠ u) ∧ (∀ k, l.findIdx? (seatP u) = some k → (lastN hs u t : Int) ≤ mostOf l k)
theorem lastN_le {hs : List (HeldT σ)} {u : σ} {t t' : Int} (h : t ≤ t') : lastN hs u t' ≤ lastN hs u t := by
  unfold lastN
  refine List.countP_mono_left fun x _ hx => ?_
  unfold lastP at *
  simp only [decide_eq_true_eq] at *
  exact ⟨hx.1, by omega⟩
theorem FewAt.later {l : List (SeatT σ)} {hs : List (HeldT σ)} {t t' : Int} (h : FewAt l hs t) (ht : t ≤ t') : FewAt l hs t' := fun u =>
  ⟨(h u).1, fun k hk => by have := (h u).2 k hk; have := lastN_le (hs := hs) (u := u) ht; omega⟩
theorem count_set_le {α : Type} {p : α → Bool} : ∀ {hs : List α} {i : Nat} {x : α}, (∀ y, hs[i]? = some y → p x = true → p y = true) → (hs.set i x).countP p ≤ hs.countP p
  | [], _, _, _ => by simp
  | y :: ys, 0, x, h => by
    have := h y rfl
    rw [List.set_cons_zero, List.countP_cons, List.countP_cons]
    by_cases hx : p x = true
    · simp [hx, this hx]
    · simp [hx]
  | y :: ys, i + 1, x, h => by
    have ih := count_set_le (hs := ys) (i := i) (x := x) (fun z hz => h z (by simpa using hz))
    rw [List.set_cons_succ, List.countP_cons, List.countP_cons]
    omega
theorem find_held {hs : List (HeldT σ)} {u s : σ} {t : Int} {i : Nat} (h : hs.findIdx? (heldP u s t) = some i) : ∃ hi : i < hs.length, hs[i].1 = u ∧ hs[i].2.1 = s ∧ t < hs[i].2.2 := by
  rw [List.findIdx?_eq_some_iff_getElem] at h
  obtain ⟨hi, h1, _⟩ := h
  unfold heldP at h1
  simp only [decide_eq_true_eq] at h1
  exact ⟨hi, h1⟩
theorem few_ans {l : List (SeatT σ)} {hs : List (HeldT σ)} {a : AskT σ} (h : FewAt l hs a.1) : FewAt l (ansF l hs a).2 a.1 := by
  unfold ansF
  split
  · exact h
  · rename_i k hk
    split
    · rename_i hi
      by_cases h1 : a.2.2.2 ≠ 1
      · rw [if_pos h1]; exact h
      rw [if_neg h1]
      by_cases h2 : (l.map fun s => s.2.1).getD k 0 ≤ (lastN hs a.2.1 a.1 : Int)
      · rw [if_pos h2]; exact h
      rw [if_neg h2]
      refine fun u => ⟨fun hu x hx => ?_, fun k' hk' => ?_⟩
      · rcases List.mem_append.1 hx with hx | hx
        · exact (h u).1 hu x hx
        · simp at hx; subst hx
          rintro rfl
          rw [hk] at hu; cases hu
      · have hb := (h u).2 k' hk'
        unfold lastN at *
        rw [List.countP_append]
        by_cases e : a.2.1 = u
        · subst e
          rw [hk] at hk'
          injection hk' with hk'
          subst hk'
          have : List.countP (lastP a.2.1 a.1) [(a.2.1, a.2.2.1, a.1 + (l.map fun s => s.2.2).getD k 0)] ≤ 1 := List.countP_le_length
          unfold mostOf
          omega
        · have : List.countP (lastP u a.1) [(a.2.1, a.2.2.1, a.1 + (l.map fun s => s.2.2).getD k 0)] = 0 := by
            simp [lastP, e]
          omega
    · rename_i i hi
      obtain ⟨hlt, g1, g2, g3⟩ := find_held hi
      have key : ∀ x : HeldT σ, x.1 = a.2.1 → FewAt l (hs.set i x) a.1 := by
        intro x hx u
        refine ⟨?_, ?_⟩
        · intro hu y hy
          rcases List.mem_or_eq_of_mem_set hy with hy | hy
          · exact (h u).1 hu y hy
          · subst hy
            rw [hx]
            rintro rfl
            rw [hk] at hu
            cases hu
        · intro k' hk'
          have hb := (h u).2 k' hk'
          have : (hs.set i x).countP (lastP u a.1) ≤ hs.countP (lastP u a.1) := count_set_le fun y hy hp => by
            rw [List.getElem?_eq_getElem hlt] at hy
            injection hy with hy
            subst hy
            unfold lastP at *
            simp only [decide_eq_true_eq] at *
            exact ⟨by rw [g1, ← hx]; exact hp.1, g3⟩
          unfold lastN at *
          omega
      by_cases h1 : a.2.2.2 = 3
      · rw [if_pos h1]; exact key _ rfl
      · rw [if_neg h1]; exact key _ rfl
/-- The asks come in order. -/
def RisingA (asks : List (AskT σ)) : Prop := ∀ i, i + 1 < asks.length → ∀ x y, asks[i]? = some x → asks[i + 1]? = some y → x.1 ≤ y.1
theorem few_held {l : List (SeatT σ)} (hm : ∀ s ∈ l, 0 ≤ s.2.1) {asks : List (AskT σ)} (hr : RisingA asks) : ∀ n, n ≤ asks.length → ∀ a, asks[n]? = some a → FewAt l (heldsF l (asks.take n)) a.1
  | 0, _, a, _ => fun u => ⟨fun _ h hh => by simp [heldsF] at hh, fun k hk => by
      rw [List.findIdx?_eq_some_iff_getElem] at hk
      obtain ⟨hlt, _⟩ := hk
      have := hm _ (List.getElem_mem hlt)
      have e : mostOf l k = l[k].2.1 := by simp [mostOf, List.getD, hlt]
      rw [e]
      simpa [lastN, heldsF] using this⟩
  | n + 1, hn, a, ha => by
    have hlt : n < asks.length := by omega
    have ih := few_held hm hr n (by omega) asks[n] (List.getElem?_eq_getElem hlt)
    rw [List.take_succ_eq_append_getElem hlt, heldsF_snoc]
    exact (few_ans ih).later (hr n (by have := (List.getElem?_eq_some_iff.1 ha).1; omega) _ _ (List.getElem?_eq_getElem hlt) ha)
/-- What the statement says of an answer. -/
def fewB (n most : Int) (there : Bool) (ans until_ time kind : Int) : Prop :=
  n ≤ most ∧ (ans = 0 → there = true ∧ (0 < n ∨ kind = 3) ∧ time ≤ until_) ∧ (ans = 17 → there = true ∧ n = most) ∧ (ans = 14 → there = false ∧ n = 0) ∧ (ans ≠ 0 → ans ≠ 17 → ans ≠ 14 → ans = 11 ∧ there = true ∧ kind ≠ 1)
theorem count_pos {α : Type} {p : α → Bool} {l : List α} {x : α} (h : x ∈ l) (hp : p x = true) : 0 < l.countP p := List.countP_pos_iff.2 ⟨x, h, hp⟩
theorem few_law {l : List (SeatT σ)} (hm : ∀ s ∈ l, 0 ≤ s.2.1) (hg : ∀ s ∈ l, 1 ≤ s.2.2) {asks : List (AskT σ)} (hr : RisingA asks) {k : Nat} {a : AskT σ} (ha : asks[k]? = some a) :
    fewB (lastN (heldsF l (asks.take (k + 1))) a.2.1 a.1) ((l.findIdx? (seatP a.2.1)).elim 0 (mostOf l)) (l.findIdx? (seatP a.2.1)).isSome
      (ansF l (heldsF l (asks.take k)) a).1.1 (ansF l (heldsF l (asks.take k)) a).1.2 a.1 a.2.2.2 := by
  have hlt := (List.getElem?_eq_some_iff.1 ha).1
  have h0 := few_held hm hr k (by omega) a ha
  have h1 := few_ans h0
  have e : heldsF l (asks.take (k + 1)) = (ansF l (heldsF l (asks.take k)) a).2 := by
    rw [List.take_succ_eq_append_getElem hlt, heldsF_snoc, show asks[k] = a by rw [List.getElem?_eq_getElem hlt] at ha; injection ha]
  rw [e]
  generalize heldsF l (asks.take k) = hs at *
  clear e
  have g0 := h0 a.2.1
  have g1 := h1 a.2.1
  revert g1
  unfold ansF
  cases hk : l.findIdx? (seatP a.2.1) with
  | none =>
    intro g1
    have h2 := g1.1 rfl
    have hz : lastN hs a.2.1 a.1 = 0 := by
      unfold lastN
      rw [List.countP_eq_zero]
      intro x hx
      have := h2 x hx
      simp [lastP, this]
    refine ⟨by simp [hz], by simp, by simp, by simp [hz], by simp⟩
  | some q =>
    have hq : 1 ≤ (l.map fun s => s.2.2).getD q 0 := by
      rw [List.findIdx?_eq_some_iff_getElem] at hk
      obtain ⟨hql, _⟩ := hk
      have := hg _ (List.getElem_mem hql)
      simpa [List.getD, hql] using this
    have g0q := g0.2 q hk
    cases hi : hs.findIdx? (heldP a.2.1 a.2.2.1 a.1) with
    | none =>
      simp only
      by_cases c1 : a.2.2.2 ≠ 1
      · rw [if_pos c1]
        intro g1
        have := g1.2 q rfl
        exact ⟨this, by simp, by simp, by simp, fun _ _ _ => ⟨rfl, rfl, c1⟩⟩
      rw [if_neg c1]
      by_cases c2 : (l.map fun s => s.2.1).getD q 0 ≤ (lastN hs a.2.1 a.1 : Int)
      · rw [if_pos c2]
        intro g1
        have h2 := g1.2 q rfl
        refine ⟨h2, by simp, fun _ => ⟨rfl, ?_⟩, by simp, by simp⟩
        simp only [Option.elim]
        unfold mostOf at *
        omega
      rw [if_neg c2]
      intro g1
      have h2 := g1.2 q rfl
      refine ⟨h2, fun _ => ⟨rfl, .inl ?_, ?_⟩, by simp, by simp, by simp⟩
      · have : 0 < lastN (hs ++ [(a.2.1, a.2.2.1, a.1 + (l.map fun s => s.2.2).getD q 0)]) a.2.1 a.1 := count_pos (x := (a.2.1, a.2.2.1, a.1 + (l.map fun s => s.2.2).getD q 0)) (by simp) (by simp only [lastP, decide_eq_true_eq]; exact ⟨trivial, by omega⟩)
        exact Int.natCast_pos.2 this
      · simp only; omega
    | some i =>
      obtain ⟨hil, f1, f2, f3⟩ := find_held hi
      simp only
      by_cases c1 : a.2.2.2 = 3
      · rw [if_pos c1]
        intro g1
        have h2 := g1.2 q rfl
        exact ⟨h2, fun _ => ⟨rfl, .inr c1, by simp⟩, by simp, by simp, by simp⟩
      · rw [if_neg c1]
        intro g1
        have h2 := g1.2 q rfl
        refine ⟨h2, fun _ => ⟨rfl, .inl ?_, ?_⟩, by simp, by simp, by simp⟩
        · have : 0 < lastN (hs.set i (a.2.1, a.2.2.1, a.1 + (l.map fun s => s.2.2).getD q 0)) a.2.1 a.1 := count_pos (x := (a.2.1, a.2.2.1, a.1 + (l.map fun s => s.2.2).getD q 0)) (List.mem_set hil _) (by simp only [lastP, decide_eq_true_eq]; exact ⟨trivial, by omega⟩)
          exact Int.natCast_pos.2 this
        · simp only; omega
end
end Go.Proofs.Ytfpmjaeehhegcaa
