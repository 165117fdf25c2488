/- When so many bits have come: bounds, and a faster network. Plain. Conditions as stated. -/
import Derived.Test.YtajadgpkmommmaaNetC
namespace Go.Proofs.Ytajadgpkmommmaa
open Go.RowKit

theorem endsP_bd : ∀ (l : List (Int × Int)) (x : Int × Int) (f b : Int), okT (x :: l) → 0 ≤ b → b ≤ 1000000000 → 0 ≤ f → f ≤ 1000000000000000000 →
    f ≤ endsP (x :: l) f b ∧ endsP (x :: l) f b ≤ max f 1000000000000 + b
  | [], x, f, b, ⟨hx, hr, h0, hlt, _⟩, hb, hb2, hf, hf2 => by
    have hx2 := h0 rfl
    rw [endsP_cons]
    have e : hdT [] = 1152921504606846976 := rfl
    rw [e]
    by_cases c0 : b = 0
    · rw [if_pos c0]; omega
    rw [if_neg c0, if_neg (by omega)]
    have hn := need_bd (b := b) (r := x.2) (by omega) (by omega)
    rw [if_pos (by omega)]
    omega
  | y :: r, x, f, b, ⟨hx, hr, h0, hlt, hok⟩, hb, hb2, hf, hf2 => by
    rw [endsP_cons]
    have e : hdT (y :: r) = y.1 := rfl
    rw [e]
    have hy := hok.1
    by_cases c0 : b = 0
    · rw [if_pos c0]; omega
    rw [if_neg c0]
    by_cases c1 : y.1 ≤ f ∨ x.2 = 0
    · rw [if_pos c1]
      have := endsP_bd r y (max f y.1) b hok hb hb2 (by omega) (by omega)
      omega
    rw [if_neg c1]
    have hn := need_bd (b := b) (r := x.2) (by omega) (by omega)
    by_cases c2 : (b + x.2 - 1) / x.2 ≤ y.1 - f
    · rw [if_pos c2]; omega
    rw [if_neg c2]
    have h1 : ¬ b ≤ x.2 * (y.1 - f) := fun h => c2 ((need_le (by omega)).2 h)
    have h2 : 0 ≤ x.2 * (y.1 - f) := Int.mul_nonneg hr.1 (by omega)
    have := endsP_bd r y y.1 (b - x.2 * (y.1 - f)) hok (by omega) (by omega) (by omega) (by omega)
    omega
/-- A trace with more bits at all times. -/
def fastT (m : Int) (l : List (Int × Int)) : List (Int × Int) := l.map fun x => (x.1, x.2 + m)
theorem hdT_fast (m : Int) (l : List (Int × Int)) : hdT (fastT m l) = hdT l := by cases l <;> rfl
theorem fast_low {m : Int} (hm : 0 ≤ m) (r y : Int) (hy : 0 ≤ y) : r * y ≤ (r + m) * y := by
  have := Int.mul_nonneg hm hy
  rw [Int.add_mul]; omega
theorem need_less {b b' r r' : Int} (hr : 0 < r) (hrr : r ≤ r') (hb : b' ≤ b) (hb0 : 0 < b) : (b' + r' - 1) / r' ≤ (b + r - 1) / r := by
  refine (need_le (by omega)).2 ?_
  have h1 := (need_le (b := b) (d := (b + r - 1) / r) hr).1 (Int.le_refl _)
  have h2 : 0 ≤ (b + r - 1) / r := Int.ediv_nonneg (by omega) (by omega)
  have h3 := Int.mul_le_mul_of_nonneg_right hrr h2
  omega
theorem endsP_less {m : Int} (hm : 0 ≤ m) : ∀ (l : List (Int × Int)) (x : Int × Int) (f f' b b' : Int), okT (x :: l) → 0 ≤ b' → b' ≤ b → b ≤ 1000000000 → 0 ≤ f' → f' ≤ f → f ≤ 1000000000000000000 →
    endsP (fastT m (x :: l)) f' b' ≤ endsP (x :: l) f b := by
  intro l
  induction l with
  | nil =>
    intro x f f' b b' hok hb0 hbb hb2 hf0 hff hf2
    have hlo := (endsP_bd [] x f b hok (by omega) hb2 (by omega) hf2).1
    obtain ⟨hx, hr, h0, hlt, _⟩ := hok
    have hx2 := h0 rfl
    have e : hdT ([] : List (Int × Int)) = 1152921504606846976 := rfl
    have e1 : fastT m [x] = [(x.1, x.2 + m)] := rfl
    rw [e1]
    by_cases c0 : b' = 0
    · rw [endsP_cons, if_pos c0]; omega
    rw [endsP_cons, endsP_cons, if_neg c0, if_neg (show ¬ b = 0 by omega), e]
    have hn := need_bd (b := b) (r := x.2) (by omega) (by omega)
    have hn2 := need_less (b := b) (b' := b') (r := x.2) (r' := x.2 + m) (by omega) (by omega) hbb (by omega)
    simp only
    rw [if_neg (by omega), if_pos (by omega), if_neg (by omega), if_pos (by omega)]
    omega
  | cons y r ih =>
    intro x f f' b b' hok hb0 hbb hb2 hf0 hff hf2
    have hlo := (endsP_bd (y :: r) x f b hok (by omega) hb2 (by omega) hf2).1
    obtain ⟨hx, hr, h0, hlt, hok2⟩ := hok
    have hy := hok2.1
    have e : hdT (y :: r) = y.1 := rfl
    have e1 : fastT m (x :: y :: r) = (x.1, x.2 + m) :: fastT m (y :: r) := rfl
    have e2 : hdT (fastT m (y :: r)) = y.1 := rfl
    rw [e1]
    by_cases c0 : b' = 0
    · rw [endsP_cons, if_pos c0]; omega
    rw [endsP_cons (_, _), if_neg c0, e2]
    simp only
    by_cases c1 : y.1 ≤ f ∨ x.2 = 0
    · have hs : endsP (x :: y :: r) f b = endsP (y :: r) (max f y.1) b := by rw [endsP_cons, if_neg (by omega), e, if_pos c1]
      rw [hs]
      have hlo2 := (endsP_bd r y (max f y.1) b hok2 (by omega) hb2 (by omega) (by omega)).1
      by_cases d1 : y.1 ≤ f' ∨ x.2 + m = 0
      · rw [if_pos d1]
        exact ih y (max f y.1) (max f' y.1) b b' hok2 hb0 hbb hb2 (by omega) (by omega) (by omega)
      rw [if_neg d1]
      by_cases d2 : (b' + (x.2 + m) - 1) / (x.2 + m) ≤ y.1 - f'
      · rw [if_pos d2]; omega
      rw [if_neg d2]
      have h1 : ¬ b' ≤ (x.2 + m) * (y.1 - f') := fun h => d2 ((need_le (by omega)).2 h)
      have h2 : 0 ≤ (x.2 + m) * (y.1 - f') := Int.mul_nonneg (by omega) (by omega)
      exact ih y (max f y.1) y.1 b _ hok2 (by omega) (by omega) hb2 (by omega) (by omega) (by omega)
    have d1 : ¬ (y.1 ≤ f' ∨ x.2 + m = 0) := by omega
    rw [if_neg d1]
    have hn2 := need_less (b := b) (b' := b') (r := x.2) (r' := x.2 + m) (by omega) (by omega) hbb (by omega)
    by_cases c2 : (b + x.2 - 1) / x.2 ≤ y.1 - f
    · have hs : endsP (x :: y :: r) f b = f + (b + x.2 - 1) / x.2 := by rw [endsP_cons, if_neg (by omega), e, if_neg c1, if_pos c2]
      rw [hs, if_pos (by omega)]
      omega
    have hs : endsP (x :: y :: r) f b = endsP (y :: r) y.1 (b - x.2 * (y.1 - f)) := by rw [endsP_cons, if_neg (by omega), e, if_neg c1, if_neg c2]
    rw [hs]
    have h1 : ¬ b ≤ x.2 * (y.1 - f) := fun h => c2 ((need_le (by omega)).2 h)
    have h2 : 0 ≤ x.2 * (y.1 - f) := Int.mul_nonneg hr.1 (by omega)
    have hlo2 := (endsP_bd r y y.1 (b - x.2 * (y.1 - f)) hok2 (by omega) (by omega) (by omega) (by omega)).1
    by_cases d2 : (b' + (x.2 + m) - 1) / (x.2 + m) ≤ y.1 - f'
    · rw [if_pos d2]; omega
    rw [if_neg d2]
    have h3 : ¬ b' ≤ (x.2 + m) * (y.1 - f') := fun h => d2 ((need_le (by omega)).2 h)
    have h4 := fast_low hm x.2 (y.1 - f') (by omega)
    have h5 : x.2 * (y.1 - f) ≤ x.2 * (y.1 - f') := Int.mul_le_mul_of_nonneg_left (by omega) hr.1
    exact ih y y.1 y.1 _ _ hok2 (by omega) (by omega) (by omega) (by omega) (by omega) (by omega)
/-- The bounds, said of a whole trace. -/
theorem ends_bd {l : List (Int × Int)} (hz : trcF l = 0) {f b : Int} (hb : 0 ≤ b ∧ b ≤ 1000000000) (hf : 0 ≤ f ∧ f ≤ 1000000000000000000) : f ≤ endsP l f b ∧ endsP l f b ≤ max f 1000000000000 + b := by
  have hok := okT_all hz 0 (by omega)
  rw [List.drop_zero] at hok
  obtain ⟨h0, _⟩ := trcF_zero hz
  match l, h0, hok with
  | x :: r, _, hok => exact endsP_bd r x f b hok hb.1 hb.2 hf.1 hf.2
theorem ends_fast {l : List (Int × Int)} (hz : trcF l = 0) {m f f' b : Int} (hm : 0 ≤ m) (hb : 0 ≤ b ∧ b ≤ 1000000000) (hf : 0 ≤ f' ∧ f' ≤ f ∧ f ≤ 1000000000000000000) : endsP (fastT m l) f' b ≤ endsP l f b := by
  have hok := okT_all hz 0 (by omega)
  rw [List.drop_zero] at hok
  obtain ⟨h0, _⟩ := trcF_zero hz
  match l, h0, hok with
  | x :: r, _, hok => exact endsP_less hm r x f f' b b hok hb.1 (Int.le_refl _) hb.2 hf.1 hf.2.1 hf.2.2
end Go.Proofs.Ytajadgpkmommmaa
