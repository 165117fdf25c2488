/- Plain laws on traces: what comes, and up to when so many bits have come. Conditions as stated. -/
import Derived.Test.YtajadgpkmommmaaPairs
namespace Go.Proofs.Ytajadgpkmommmaa

/-- A number that is greater than any that a rule permits. -/
abbrev farI : Int := 1152921504606846976
/-- The time of the first element of the rest. -/
def hdT : List (Int × Int) → Int
  | [] => farI
  | y :: _ => y.1
/-- What comes. -/
def camel : List (Int × Int) → Int → Int → Int
  | [], _, _ => 0
  | x :: r, f, t => x.2 * max 0 (min t (hdT r) - max f x.1) + camel r f t
/-- Up to when so many bits have come, as the program has it. -/
def endsP : List (Int × Int) → Int → Int → Int
  | [], f, _ => f
  | x :: r, f, b =>
    if b = 0 then f else if hdT r ≤ f ∨ x.2 = 0 then endsP r (max f (hdT r)) b
    else if (b + x.2 - 1) / x.2 ≤ hdT r - f then f + (b + x.2 - 1) / x.2 else endsP r (hdT r) (b - x.2 * (hdT r - f))
/-- The same, as the document has it. -/
def endsR : List (Int × Int) → Int → Int → Int
  | [], f, _ => f
  | x :: r, f, b =>
    if r = [] then (if b = 0 then max f x.1 else max f x.1 + (b + x.2 - 1) / x.2)
    else if hdT r ≤ max f x.1 then endsR r f b
    else if (hdT r - max f x.1) * x.2 < b then endsR r f (b - (hdT r - max f x.1) * x.2)
    else if b = 0 then max f x.1 else max f x.1 + (b + x.2 - 1) / x.2
/-- A right trace, from an element on. -/
def okT : List (Int × Int) → Prop
  | [] => True
  | x :: r => (0 ≤ x.1 ∧ x.1 ≤ 1000000000000) ∧ (0 ≤ x.2 ∧ x.2 ≤ 1000000) ∧ (r = [] → x.2 ≠ 0) ∧ x.1 < hdT r ∧ okT r
theorem need_le {b r d : Int} (hr : 0 < r) : (b + r - 1) / r ≤ d ↔ b ≤ r * d := by
  constructor
  · intro h
    have h1 : (b + r - 1) < ((b + r - 1) / r + 1) * r := Int.lt_ediv_add_one_mul_self _ hr
    have h2 : ((b + r - 1) / r + 1) * r ≤ (d + 1) * r := Int.mul_le_mul_of_nonneg_right (by omega) (by omega)
    rw [show (d + 1) * r = d * r + r by rw [Int.add_mul, Int.one_mul]] at h2
    rw [Int.mul_comm]
    omega
  · intro h
    have h1 : (b + r - 1) < (d + 1) * r := by rw [Int.add_mul, Int.one_mul, Int.mul_comm d r]; omega
    have := Int.ediv_lt_of_lt_mul hr h1
    omega
theorem last_facts {x : Int × Int} {f b : Int} (hx : 0 ≤ x.1 ∧ x.1 ≤ 1000000000000) (hf : f ≤ 2000000000000) (hx2 : x.2 ≠ 0) (hb2 : b ≤ 1000000000) (hneed : (b + x.2 - 1) / x.2 ≤ b) :
    ¬ (hdT [] ≤ max f x.1 ∨ x.2 = 0) ∧ (b + x.2 - 1) / x.2 ≤ hdT [] - max f x.1 := by
  have e : hdT [] = 1152921504606846976 := rfl
  rw [e]
  constructor
  · rintro (h | h) <;> omega
  · omega
theorem endsEq : ∀ (l : List (Int × Int)) (x : Int × Int) (f b : Int), okT (x :: l) → 0 < b → b ≤ 1000000000 → f ≤ 2000000000000 → endsP (x :: l) (max f x.1) b = endsR (x :: l) f b
  | [], x, f, b, ⟨hx, hr, h0, hlt, _⟩, hb, hb2, hf => by
    have hx2 := h0 rfl
    have hneed : (b + x.2 - 1) / x.2 ≤ b := (need_le (by omega)).2 (by
      have := Int.mul_le_mul_of_nonneg_right (show 1 ≤ x.2 by omega) (show 0 ≤ b by omega)
      omega)
    obtain ⟨e1, e2⟩ := last_facts (x := x) (f := f) (b := b) hx hf hx2 hb2 hneed
    rw [endsP, endsR, if_neg (show ¬ b = 0 by omega), if_neg e1, if_pos e2, if_pos rfl, if_neg (show ¬ b = 0 by omega)]
  | y :: r, x, f, b, ⟨hx, hr, h0, hlt, hok⟩, hb, hb2, hf => by
    have hy := hok.1
    have hlt' : x.1 < y.1 := hlt
    have ed : hdT (y :: r) = y.1 := rfl
    rw [endsP, endsR, ed, if_neg (show ¬ b = 0 by omega), if_neg (show ¬ (y :: r = []) by simp)]
    by_cases h1 : y.1 ≤ max f x.1
    · rw [if_pos (show y.1 ≤ max f x.1 ∨ x.2 = 0 from .inl h1), if_pos h1]
      have e : max (max f x.1) y.1 = max f y.1 := by omega
      rw [e]
      exact endsEq r y f b hok hb hb2 hf
    · rw [if_neg h1]
      by_cases h2 : x.2 = 0
      · rw [if_pos (show y.1 ≤ max f x.1 ∨ x.2 = 0 from .inr h2), h2, Int.mul_zero, if_pos hb]
        have e : max (max f x.1) y.1 = max f y.1 := by omega
        rw [e, Int.sub_zero]
        exact endsEq r y f b hok hb hb2 hf
      · rw [if_neg (show ¬ (y.1 ≤ max f x.1 ∨ x.2 = 0) by omega)]
        have hr0 : 0 < x.2 := by omega
        have hn := need_le (b := b) (d := y.1 - max f x.1) hr0
        have hc : (y.1 - max f x.1) * x.2 = x.2 * (y.1 - max f x.1) := Int.mul_comm _ _
        rw [hc]
        have hp : 0 ≤ x.2 * (y.1 - max f x.1) := Int.mul_nonneg (by omega) (by omega)
        by_cases h3 : (b + x.2 - 1) / x.2 ≤ y.1 - max f x.1
        · have := hn.1 h3
          rw [if_pos h3, if_neg (show ¬ x.2 * (y.1 - max f x.1) < b by omega), if_neg (show ¬ b = 0 by omega)]
        · have h4 : ¬ b ≤ x.2 * (y.1 - max f x.1) := fun h => h3 (hn.2 h)
          rw [if_neg h3, if_pos (show x.2 * (y.1 - max f x.1) < b by omega)]
          have e : y.1 = max f y.1 := by omega
          conv => lhs; rw [show endsP (y :: r) y.1 = endsP (y :: r) (max f y.1) by rw [← e]]
          exact endsEq r y f _ hok (by omega) (by omega) hf
theorem camel_nonneg : ∀ (l : List (Int × Int)) (f t : Int), okT l → 0 ≤ camel l f t
  | [], _, _, _ => by simp [camel]
  | x :: r, f, t, ⟨_, hr, _, _, hok⟩ => by
    have := camel_nonneg r f t hok
    have h2 : 0 ≤ x.2 * max 0 (min t (hdT r) - max f x.1) := Int.mul_nonneg hr.1 (by omega)
    rw [camel]; omega
theorem camel_zero : ∀ (l : List (Int × Int)) (f t : Int), okT l → t ≤ hdT l → camel l f t = 0
  | [], _, _, _, _ => rfl
  | x :: r, f, t, ⟨_, _, _, hlt, hok⟩, ht => by
    have h : t ≤ x.1 := ht
    rw [camel, camel_zero r f t hok (by omega), show max 0 (min t (hdT r) - max f x.1) = 0 by omega]
    simp
theorem camel_le : ∀ (l : List (Int × Int)) (f t : Int), okT l → 0 ≤ f → camel l f t ≤ 1000000 * max 0 (t - max f (hdT l))
  | [], f, t, _, _ => by simp only [camel]; omega
  | x :: r, f, t, ⟨_, hr, _, hlt, hok⟩, hf => by
    have ih := camel_le r f t hok hf
    have h2 : x.2 * max 0 (min t (hdT r) - max f x.1) ≤ 1000000 * max 0 (min t (hdT r) - max f x.1) := Int.mul_le_mul_of_nonneg_right hr.2 (by omega)
    rw [camel]
    have e : hdT (x :: r) = x.1 := rfl
    rw [e]
    omega
theorem camel_cons (x : Int × Int) (r : List (Int × Int)) (f t : Int) : camel (x :: r) f t = x.2 * max 0 (min t (hdT r) - max f x.1) + camel r f t := rfl
theorem camel_add : ∀ (l : List (Int × Int)) (f a t : Int), okT l → f ≤ a → a ≤ t → camel l f a + camel l a t = camel l f t
  | [], _, _, _, _, _, _ => rfl
  | x :: r, f, a, t, ⟨_, _, _, hlt, hok⟩, h1, h2 => by
    have ih := camel_add r f a t hok h1 h2
    rw [camel, camel, camel, ← ih]
    have e : max 0 (min t (hdT r) - max f x.1) = max 0 (min a (hdT r) - max f x.1) + max 0 (min t (hdT r) - max a x.1) := by omega
    rw [e, Int.mul_add]
    omega
theorem ends_first : ∀ (l : List (Int × Int)) (x : Int × Int) (f b : Int), okT (x :: l) → 0 < b → b ≤ 1000000000 → 0 ≤ f → f ≤ 2000000000000 →
    max f x.1 < endsP (x :: l) (max f x.1) b ∧ b ≤ camel (x :: l) f (endsP (x :: l) (max f x.1) b) ∧ camel (x :: l) f (endsP (x :: l) (max f x.1) b - 1) < b := by
  intro l
  induction l with
  | nil =>
    intro x f b ⟨hx, hr, h0, hlt, _⟩ hb hb2 hf0 hf
    have hx2 := h0 rfl
    have hr0 : 0 < x.2 := by omega
    have n1 := need_le (b := b) (d := (b + x.2 - 1) / x.2) hr0
    have n2 := need_le (b := b) (d := (b + x.2 - 1) / x.2 - 1) hr0
    have hneed : (b + x.2 - 1) / x.2 ≤ b := (need_le (by omega)).2 (by
      have := Int.mul_le_mul_of_nonneg_right (show 1 ≤ x.2 by omega) (show 0 ≤ b by omega)
      omega)
    have n0 : ¬ (b + x.2 - 1) / x.2 ≤ 0 := fun h => by
      have := (need_le (b := b) hr0).1 h; omega
    obtain ⟨k1, k2⟩ := last_facts (x := x) (f := f) (b := b) hx hf hx2 hb2 hneed
    have hE : endsP [x] (max f x.1) b = max f x.1 + (b + x.2 - 1) / x.2 := by
      rw [endsP, if_neg (show ¬ b = 0 by omega), if_neg k1, if_pos k2]
    rw [hE]
    generalize (b + x.2 - 1) / x.2 = q at *
    have m1 : b ≤ x.2 * q := n1.1 (Int.le_refl _)
    have m2 : ¬ b ≤ x.2 * (q - 1) := fun h => by have := n2.2 h; omega
    have eh : hdT [] = 1152921504606846976 := rfl
    simp only [camel]
    rw [eh]
    have e1 : max 0 (min (max f x.1 + q) 1152921504606846976 - max f x.1) = q := by omega
    have e2 : max 0 (min (max f x.1 + q - 1) 1152921504606846976 - max f x.1) = q - 1 := by omega
    rw [e1, e2]
    omega
  | cons y r ih =>
    intro x f b ⟨hx, hr, h0, hlt, hok⟩ hb hb2 hf0 hf
    have hy := hok.1
    have hlt' : x.1 < y.1 := hlt
    have ed : hdT (y :: r) = y.1 := rfl
    rw [endsP, ed, if_neg (show ¬ b = 0 by omega)]
    by_cases h1 : y.1 ≤ max f x.1
    · rw [if_pos (show y.1 ≤ max f x.1 ∨ x.2 = 0 from .inl h1)]
      have e : max (max f x.1) y.1 = max f y.1 := by omega
      rw [e]
      obtain ⟨i1, i2, i3⟩ := ih y f b hok hb hb2 hf0 hf
      generalize endsP (y :: r) (max f y.1) b = e at *
      have z1 : max 0 (min e (hdT (y :: r)) - max f x.1) = 0 := by rw [ed]; omega
      have z2 : max 0 (min (e - 1) (hdT (y :: r)) - max f x.1) = 0 := by rw [ed]; omega
      rw [camel_cons x (y :: r) f e, camel_cons x (y :: r) f (e - 1), z1, z2, Int.mul_zero]
      omega
    · by_cases h2 : x.2 = 0
      · rw [if_pos (show y.1 ≤ max f x.1 ∨ x.2 = 0 from .inr h2)]
        have e : max (max f x.1) y.1 = max f y.1 := by omega
        rw [e]
        obtain ⟨i1, i2, i3⟩ := ih y f b hok hb hb2 hf0 hf
        generalize endsP (y :: r) (max f y.1) b = e at *
        rw [camel_cons x (y :: r) f e, camel_cons x (y :: r) f (e - 1), h2, Int.zero_mul, Int.zero_mul]
        omega
      · rw [if_neg (show ¬ (y.1 ≤ max f x.1 ∨ x.2 = 0) by omega)]
        have hr0 : 0 < x.2 := by omega
        have n3 := need_le (b := b) (d := y.1 - max f x.1) hr0
        have n1 := need_le (b := b) (d := (b + x.2 - 1) / x.2) hr0
        have n2 := need_le (b := b) (d := (b + x.2 - 1) / x.2 - 1) hr0
        have n0 : ¬ (b + x.2 - 1) / x.2 ≤ 0 := fun h => by
          have := (need_le (b := b) hr0).1 h; omega
        have hp : 0 ≤ x.2 * (y.1 - max f x.1) := Int.mul_nonneg (by omega) (by omega)
        by_cases h3 : (b + x.2 - 1) / x.2 ≤ y.1 - max f x.1
        · rw [if_pos h3]
          generalize (b + x.2 - 1) / x.2 = q at *
          have m1 : b ≤ x.2 * q := n1.1 (Int.le_refl _)
          have m2 : ¬ b ≤ x.2 * (q - 1) := fun h => by have := n2.2 h; omega
          rw [camel_cons x (y :: r) f (max f x.1 + q), camel_cons x (y :: r) f (max f x.1 + q - 1), camel_zero (y :: r) f (max f x.1 + q) hok (by rw [ed]; omega), camel_zero (y :: r) f (max f x.1 + q - 1) hok (by rw [ed]; omega)]
          have e1 : max 0 (min (max f x.1 + q) (hdT (y :: r)) - max f x.1) = q := by rw [ed]; omega
          have e2 : max 0 (min (max f x.1 + q - 1) (hdT (y :: r)) - max f x.1) = q - 1 := by rw [ed]; omega
          rw [e1, e2]
          omega
        · have h4 : ¬ b ≤ x.2 * (y.1 - max f x.1) := fun h => h3 (n3.2 h)
          rw [if_neg h3]
          have e : max f y.1 = y.1 := by omega
          obtain ⟨i1, i2, i3⟩ := ih y f (b - x.2 * (y.1 - max f x.1)) hok (by omega) (by omega) hf0 hf
          rw [e] at i1 i2 i3
          generalize endsP (y :: r) y.1 (b - x.2 * (y.1 - max f x.1)) = e at *
          rw [camel_cons x (y :: r) f e, camel_cons x (y :: r) f (e - 1)]
          have e1 : max 0 (min e (hdT (y :: r)) - max f x.1) = y.1 - max f x.1 := by rw [ed]; omega
          have e2 : max 0 (min (e - 1) (hdT (y :: r)) - max f x.1) = y.1 - max f x.1 := by rw [ed]; omega
          rw [e1, e2]
          omega

/-- The fault of an element of a trace. -/
def trEl (l : List (Int × Int)) (i : Nat) : Int :=
  if (l.getD i (0, 0)).1 < 0 ∨ 1000000000000 < (l.getD i (0, 0)).1 then 1
  else if (i = 0 ∧ (l.getD i (0, 0)).1 ≠ 0) ∨ (0 < i ∧ (l.getD i (0, 0)).1 ≤ (l.getD (i - 1) (0, 0)).1) then 8
  else if (l.getD i (0, 0)).2 < 0 ∨ 1000000 < (l.getD i (0, 0)).2 then 1 else 0
/-- The fault of a trace. -/
def trcF (l : List (Int × Int)) : Int :=
  if l.length = 0 then 9 else if 500 < l.length then 2 else if firstF (trEl l) l.length ≠ 0 then firstF (trEl l) l.length
  else if (l.getD (l.length - 1) (0, 0)).2 = 0 then 13 else 0
theorem trEl_zero {l : List (Int × Int)} {i : Nat} (h : trEl l i = 0) : (0 ≤ (l.getD i (0, 0)).1 ∧ (l.getD i (0, 0)).1 ≤ 1000000000000) ∧ (0 ≤ (l.getD i (0, 0)).2 ∧ (l.getD i (0, 0)).2 ≤ 1000000) ∧
    (i = 0 → (l.getD i (0, 0)).1 = 0) ∧ (0 < i → (l.getD (i - 1) (0, 0)).1 < (l.getD i (0, 0)).1) := by
  unfold trEl at h
  split at h
  · omega
  · split at h
    · omega
    · split at h
      · omega
      · refine ⟨by omega, by omega, fun _ => by omega, fun _ => by omega⟩
theorem drop_cons {α : Type} (l : List α) (k : Nat) (d : α) (h : k < l.length) : l.drop k = l.getD k d :: l.drop (k + 1) := by
  rw [List.drop_eq_getElem_cons h]
  simp [List.getD, h]
theorem hdT_drop (l : List (Int × Int)) (k : Nat) : hdT (l.drop k) = if k < l.length then (l.getD k (0, 0)).1 else farI := by
  by_cases h : k < l.length
  · rw [if_pos h, drop_cons l k (0, 0) h]; rfl
  · rw [if_neg h, List.drop_of_length_le (by omega)]; rfl
theorem trcF_zero {l : List (Int × Int)} (h : trcF l = 0) : 0 < l.length ∧ l.length ≤ 500 ∧ (∀ j, j < l.length → trEl l j = 0) ∧ (l.getD (l.length - 1) (0, 0)).2 ≠ 0 := by
  unfold trcF at h
  split at h
  · omega
  · split at h
    · omega
    · split at h
      · omega
      · split at h
        · omega
        · exact ⟨by omega, by omega, firstF_all (by omega), by assumption⟩
theorem okT_drop {l : List (Int × Int)} (h : trcF l = 0) : ∀ m k, k + m = l.length → okT (l.drop k)
  | 0, k, hk => by rw [List.drop_of_length_le (by omega)]; trivial
  | m + 1, k, hk => by
    obtain ⟨h0, h5, hall, hlast⟩ := trcF_zero h
    have ih := okT_drop h m (k + 1) (by omega)
    obtain ⟨e1, e2, e3, e4⟩ := trEl_zero (hall k (by omega))
    rw [drop_cons l k (0, 0) (by omega)]
    refine ⟨e1, e2, fun hn => ?_, ?_, ih⟩
    · have hl : l.length ≤ k + 1 := by simpa using hn
      have : k = l.length - 1 := by omega
      rw [this]; exact hlast
    · rw [hdT_drop]
      by_cases hk1 : k + 1 < l.length
      · rw [if_pos hk1]
        have := (trEl_zero (hall (k + 1) hk1)).2.2.2 (by omega)
        simpa using this
      · rw [if_neg hk1]; simp only [farI]; omega
theorem okT_all {l : List (Int × Int)} (h : trcF l = 0) (k : Nat) (hk : k ≤ l.length) : okT (l.drop k) := okT_drop h (l.length - k) k (by omega)
/-- What Came and Ends return. -/
def cameF (l : List (Int × Int)) (f t : Int) : Int := if trcF l ≠ 0 then trcF l else if f < 0 ∨ t < f ∨ 2000000000000 < t then 1 else 0
def cameV (l : List (Int × Int)) (f t : Int) : Int := if cameF l f t ≠ 0 then 0 else camel l f t
def endsF (l : List (Int × Int)) (f b : Int) : Int := if trcF l ≠ 0 then trcF l else if f < 0 ∨ 2000000000000 < f ∨ b < 0 ∨ 1000000000 < b then 1 else 0
def endsV (l : List (Int × Int)) (f b : Int) : Int := if endsF l f b ≠ 0 then 0 else endsP l f b
theorem endsP_nil (l : List (Int × Int)) (f : Int) : endsP l f 0 = f := by
  cases l with
  | nil => rfl
  | cons x r => rw [endsP, if_pos rfl]
end Go.Proofs.Ytajadgpkmommmaa
