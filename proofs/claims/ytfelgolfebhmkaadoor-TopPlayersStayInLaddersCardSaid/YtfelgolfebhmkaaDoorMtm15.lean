/- Plain laws on traces: what comes, and up to when so many bits have come. Conditions as stated. -/
import Derived.Test.YtfelgolfebhmkaaDoorMtm01
namespace Go.Proofs.YtfelgolfebhmkaaDoor
abbrev farI : Int := 1152921504606846976
def hdT : List (Int × Int) → Int
  | [] => farI
  | y :: _ => y.1
def camel : List (Int × Int) → Int → Int → Int
  | [], _, _ => 0
  | x :: r, f, t => x.2 * max 0 (min t (hdT r) - max f x.1) + camel r f t
def endsP : List (Int × Int) → Int → Int → Int
  | [], f, _ => f
  | x :: r, f, b =>
    if b = 0 then f else if hdT r ≤ f ∨ x.2 = 0 then endsP r (max f (hdT r)) b
    else if (b + x.2 - 1) / x.2 ≤ hdT r - f then f + (b + x.2 - 1) / x.2 else endsP r (hdT r) (b - x.2 * (hdT r - f))
def okT : List (Int × Int) → Prop
  | [] => True
  | x :: r => (0 ≤ x.1 ∧ x.1 ≤ 1000000000000) ∧ (0 ≤ x.2 ∧ x.2 ≤ 1000000) ∧ (r = [] → x.2 ≠ 0) ∧ x.1 < hdT r ∧ okT r
theorem need_le {b r d : Int} (hr : 0 < r) : (b + r - 1) / r ≤ d ↔ b ≤ r * d := by
  constructor
  · intro h
    have h1 : (b + r - 1) < ((b + r - 1) / r + 1) * r := Int.lt_ediv_add_one_mul_self _ hr
    have h2 : ((b + r - 1) / r + 1) * r ≤ (d + 1) * r := Int.mul_le_mul_of_nonneg_right (by omega) (by omega)
    rw [show (d + 1) * r = d * r + r by rw [Int.add_mul, Int.one_mul]] at h2
    rw [Int.mul_comm]
    omega
  · intro h
    have h1 : (b + r - 1) < (d + 1) * r := by rw [Int.add_mul, Int.one_mul, Int.mul_comm d r]; omega
    have := Int.ediv_lt_of_lt_mul hr h1
    omega
theorem camel_nonneg : ∀ (l : List (Int × Int)) (f t : Int), okT l → 0 ≤ camel l f t
  | [], _, _, _ => by simp [camel]
  | x :: r, f, t, ⟨_, hr, _, _, hok⟩ => by
    have := camel_nonneg r f t hok
    have h2 : 0 ≤ x.2 * max 0 (min t (hdT r) - max f x.1) := Int.mul_nonneg hr.1 (by omega)
    rw [camel]; omega
theorem camel_le : ∀ (l : List (Int × Int)) (f t : Int), okT l → 0 ≤ f → camel l f t ≤ 1000000 * max 0 (t - max f (hdT l))
  | [], f, t, _, _ => by simp only [camel]; omega
  | x :: r, f, t, ⟨_, hr, _, hlt, hok⟩, hf => by
    have ih := camel_le r f t hok hf
    have h2 : x.2 * max 0 (min t (hdT r) - max f x.1) ≤ 1000000 * max 0 (min t (hdT r) - max f x.1) := Int.mul_le_mul_of_nonneg_right hr.2 (by omega)
    rw [camel]
    have e : hdT (x :: r) = x.1 := rfl
    rw [e]
    omega
theorem camel_cons (x : Int × Int) (r : List (Int × Int)) (f t : Int) : camel (x :: r) f t = x.2 * max 0 (min t (hdT r) - max f x.1) + camel r f t := rfl
def trEl (l : List (Int × Int)) (i : Nat) : Int :=
  if (l.getD i (0, 0)).1 < 0 ∨ 1000000000000 < (l.getD i (0, 0)).1 then 1
  else if (i = 0 ∧ (l.getD i (0, 0)).1 ≠ 0) ∨ (0 < i ∧ (l.getD i (0, 0)).1 ≤ (l.getD (i - 1) (0, 0)).1) then 8
  else if (l.getD i (0, 0)).2 < 0 ∨ 1000000 < (l.getD i (0, 0)).2 then 1 else 0
def trcF (l : List (Int × Int)) : Int :=
  if l.length = 0 then 9 else if 500 < l.length then 2 else if firstF (trEl l) l.length ≠ 0 then firstF (trEl l) l.length
  else if (l.getD (l.length - 1) (0, 0)).2 = 0 then 13 else 0
theorem trEl_zero {l : List (Int × Int)} {i : Nat} (h : trEl l i = 0) : (0 ≤ (l.getD i (0, 0)).1 ∧ (l.getD i (0, 0)).1 ≤ 1000000000000) ∧ (0 ≤ (l.getD i (0, 0)).2 ∧ (l.getD i (0, 0)).2 ≤ 1000000) ∧
    (i = 0 → (l.getD i (0, 0)).1 = 0) ∧ (0 < i → (l.getD (i - 1) (0, 0)).1 < (l.getD i (0, 0)).1) := by
  unfold trEl at h
  split at h
  · omega
  · split at h
    · omega
    · split at h
      · omega
      · refine ⟨by omega, by omega, fun _ => by omega, fun _ => by omega⟩
theorem drop_cons {α : Type} (l : List α) (k : Nat) (d : α) (h : k < l.length) : l.drop k = l.getD k d :: l.drop (k + 1) := by
  rw [List.drop_eq_getElem_cons h]
  simp [List.getD, h]
theorem hdT_drop (l : List (Int × Int)) (k : Nat) : hdT (l.drop k) = if k < l.length then (l.getD k (0, 0)).1 else farI := by
  by_cases h : k < l.length
  · rw [if_pos h, drop_cons l k (0, 0) h]; rfl
  · rw [if_neg h, List.drop_of_length_le (by omega)]; rfl
theorem trcF_zero {l : List (Int × Int)} (h : trcF l = 0) : 0 < l.length ∧ l.length ≤ 500 ∧ (∀ j, j < l.length → trEl l j = 0) ∧ (l.getD (l.length - 1) (0, 0)).2 ≠ 0 := by
  unfold trcF at h
  split at h
  · omega
  · split at h
    · omega
    · split at h
      · omega
      · split at h
        · omega
        · exact ⟨by omega, by omega, firstF_all (by omega), by assumption⟩
theorem okT_drop {l : List (Int × Int)} (h : trcF l = 0) : ∀ m k, k + m = l.length → okT (l.drop k)
  | 0, k, hk => by rw [List.drop_of_length_le (by omega)]; trivial
  | m + 1, k, hk => by
    obtain ⟨h0, h5, hall, hlast⟩ := trcF_zero h
    have ih := okT_drop h m (k + 1) (by omega)
    obtain ⟨e1, e2, e3, e4⟩ := trEl_zero (hall k (by omega))
    rw [drop_cons l k (0, 0) (by omega)]
    refine ⟨e1, e2, fun hn => ?_, ?_, ih⟩
    · have hl : l.length ≤ k + 1 := by simpa using hn
      have : k = l.length - 1 := by omega
      rw [this]; exact hlast
    · rw [hdT_drop]
      by_cases hk1 : k + 1 < l.length
      · rw [if_pos hk1]
        have := (trEl_zero (hall (k + 1) hk1)).2.2.2 (by omega)
        simpa using this
      · rw [if_neg hk1]; simp only [farI]; omega
theorem okT_all {l : List (Int × Int)} (h : trcF l = 0) (k : Nat) (hk : k ≤ l.length) : okT (l.drop k) := okT_drop h (l.length - k) k (by omega)
def cameF (l : List (Int × Int)) (f t : Int) : Int := if trcF l ≠ 0 then trcF l else if f < 0 ∨ t < f ∨ 2000000000000 < t then 1 else 0
def cameV (l : List (Int × Int)) (f t : Int) : Int := if cameF l f t ≠ 0 then 0 else camel l f t
end Go.Proofs.YtfelgolfebhmkaaDoor
