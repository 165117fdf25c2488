/- The delay of samples in plain words. Plain. -/
import Derived.Test.YtcbjoangpgcbeaaSmpP
namespace Go.Proofs.Ytcbjoangpgcbeaa
/-- A quotient rounded up. -/
def ceilQ (x p : Nat) : Nat := if 0 < x % p then x / p + 1 else x / p
/-- The bytes of the first samples. -/
def byN (l : List Smp) : Nat → Nat
  | 0 => 0
  | k + 1 => byN l k + (l.getD k dS).size.toNat
/-- The delay of the first samples. -/
def dlF (s r : Nat) (l : List Smp) : Nat → Int
  | 0 => 0
  | k + 1 => max (dlF s r l k) ((ceilQ (byN l (k + 1) * s) r : Nat) - ((l.getD k dS).time - (l.getD 0 dS).time))
theorem dlF_le (s r : Nat) (l : List Smp) {i : Nat} : ∀ {k : Nat}, i ≤ k → dlF s r l i ≤ dlF s r l k
  | 0, h => by
    obtain rfl : i = 0 := by omega
    exact Int.le_refl _
  | k + 1, h => by
    rcases Nat.eq_or_lt_of_le h with h1 | h1
    · rw [h1]; exact Int.le_refl _
    · have := dlF_le s r l (i := i) (k := k) (by omega)
      rw [dlF]; omega
theorem byN_le {l : List Smp} (h : ∀ i, i < l.length → badS (l.getD i dS) = false) : ∀ k, k ≤ l.length → byN l k ≤ k * 100000
  | 0, _ => by simp [byN]
  | k + 1, hk => by
    have ih := byN_le h k (by omega)
    have := (badS_ok (h k (by omega))).2.2.2
    rw [byN]; omega
theorem ceilQ_le (x p : Nat) : ceilQ x p ≤ x + 1 := by
  have := Nat.div_le_self x p
  unfold ceilQ; split <;> omega
theorem byN_mul {l : List Smp} {s : Nat} (h : ∀ i, i < l.length → badS (l.getD i dS) = false) (hl : l.length ≤ 5000) (hs : s ≤ 1000000000) {k : Nat} (hk : k ≤ l.length) : byN l k ≤ 500000000 ∧ byN l k * s ≤ 500000000000000000 := by
  have h1 := byN_le h k hk
  have h2 : byN l k ≤ 500000000 := by omega
  have := Nat.mul_le_mul h2 hs
  omega
theorem dlF_bd {l : List Smp} {s r : Nat} (h : ∀ i, i < l.length → badS (l.getD i dS) = false) (hl : l.length ≤ 5000) (hs : s ≤ 1000000000) : ∀ k, k ≤ l.length → 0 ≤ dlF s r l k ∧ dlF s r l k ≤ 600000000000000000
  | 0, _ => by simp [dlF]
  | k + 1, hk => by
    have ih := dlF_bd (r := r) h hl hs k (by omega)
    have h1 := (byN_mul h hl hs hk).2
    have h2 := ceilQ_le (byN l (k + 1) * s) r
    have h3 := (badS_ok (h k (by omega))).1
    have h4 := (badS_ok (h 0 (by omega))).1
    rw [dlF]
    omega
theorem getD_pre {l : List Smp} {m i : Nat} (h : i < m) : (l.take m).getD i dS = l.getD i dS := by
  rw [List.getD_eq_getElem?_getD, List.getD_eq_getElem?_getD, List.getElem?_take, if_pos h]
theorem byN_pre {l : List Smp} {m : Nat} : ∀ k, k ≤ m → byN (l.take m) k = byN l k
  | 0, _ => rfl
  | k + 1, h => by rw [byN, byN, byN_pre k (by omega), getD_pre (by omega)]
theorem dlF_pre {s r : Nat} {l : List Smp} {m : Nat} : ∀ k, k ≤ m → dlF s r (l.take m) k = dlF s r l k
  | 0, _ => rfl
  | k + 1, h => by rw [dlF, dlF, dlF_pre k (by omega), byN_pre (k + 1) h, getD_pre (by omega), getD_pre (by omega)]
/-- Later samples. -/
def mvL (l : List Smp) : List Smp := l.map fun x => { x with time := x.time + 1000 }
theorem mvL_len (l : List Smp) : (mvL l).length = l.length := by unfold mvL; simp
theorem mvL_get {l : List Smp} {i : Nat} (h : i < l.length) : (mvL l).getD i dS = { l.getD i dS with time := (l.getD i dS).time + 1000 } := by
  unfold mvL; simp [List.getD, h]
theorem byN_mv {l : List Smp} : ∀ k, k ≤ l.length → byN (mvL l) k = byN l k
  | 0, _ => rfl
  | k + 1, h => by rw [byN, byN, byN_mv k (by omega), mvL_get (by omega)]
theorem dlF_mv {s r : Nat} {l : List Smp} : ∀ k, k ≤ l.length → dlF s r (mvL l) k = dlF s r l k
  | 0, _ => rfl
  | k + 1, h => by
    rw [dlF, dlF, dlF_mv k (by omega), byN_mv (k + 1) h, mvL_get (by omega), mvL_get (by omega)]
    show max _ (_ - ((l.getD k dS).time + 1000 - ((l.getD 0 dS).time + 1000))) = _
    rw [show (l.getD k dS).time + 1000 - ((l.getD 0 dS).time + 1000) = (l.getD k dS).time - (l.getD 0 dS).time by omega]
/-- The fault and the value of Delay. -/
def delF (s r : Int) (l : List Smp) : Int := if smpF l ≠ 0 then smpF l else if s < 1 ∨ 1000000000 < s then 1 else if r < 1 ∨ 1000000000 < r then 1 else if 1000000000000 < dlF s.toNat r.toNat l l.length then 1 else 0
def delV (s r : Int) (l : List Smp) : Int := if delF s r l = 0 then dlF s.toNat r.toNat l l.length else 0
theorem delF_zero {s r : Int} {l : List Smp} (h : delF s r l = 0) : smpF l = 0 ∧ ¬ (s < 1 ∨ 1000000000 < s) ∧ ¬ (r < 1 ∨ 1000000000 < r) ∧ dlF s.toNat r.toNat l l.length ≤ 1000000000000 := by
  unfold delF at h
  by_cases h1 : smpF l ≠ 0
  · rw [if_pos h1] at h; exact absurd h h1
  rw [if_neg h1] at h
  by_cases h2 : s < 1 ∨ 1000000000 < s
  · rw [if_pos h2] at h; omega
  rw [if_neg h2] at h
  by_cases h3 : r < 1 ∨ 1000000000 < r
  · rw [if_pos h3] at h; omega
  rw [if_neg h3] at h
  by_cases h4 : 1000000000000 < dlF s.toNat r.toNat l l.length
  · rw [if_pos h4] at h; omega
  exact ⟨by omega, h2, h3, by omega⟩
theorem delF_of {s r : Int} {l : List Smp} (h1 : smpF l = 0) (h2 : ¬ (s < 1 ∨ 1000000000 < s)) (h3 : ¬ (r < 1 ∨ 1000000000 < r)) (h4 : dlF s.toNat r.toNat l l.length ≤ 1000000000000) : delF s r l = 0 ∧ delV s r l = dlF s.toNat r.toNat l l.length := by
  have h : delF s r l = 0 := by unfold delF; rw [if_neg (by omega), if_neg h2, if_neg h3, if_neg (by omega)]
  exact ⟨h, by unfold delV; rw [if_pos h]⟩
/-- The first samples are right. -/
theorem smpF_pre {l : List Smp} (h : smpF l = 0) (m : Nat) (hm : m ≤ l.length) : smpF (l.take m) = 0 := by
  obtain ⟨h1, h2, h3⟩ := smpF_zero h
  have hl : (l.take m).length = m := by rw [List.length_take]; omega
  refine smpF_of (by omega) (fun i hi => ?_) (fun hp => ?_)
  · rw [hl] at hi
    have := h2 i (by omega)
    unfold smpEl at this ⊢
    rw [getD_pre hi, getD_pre (show i - 1 < m by omega)]
    exact this
  · rw [hl] at hp
    unfold endS
    rw [hl, getD_pre (by omega)]
    by_cases hml : m = l.length
    · have := h3 (by omega)
      unfold endS at this
      rw [hml]; exact this
    · have hb := smpEl_zero (h2 m (by omega))
      have ht := hb.2 hp
      rw [← ht]
      have := hb.1
      unfold badS at this
      simp only [Bool.or_eq_false_iff] at this
      exact this.1.1.1
/-- Samples moved are right, or out of range. -/
theorem smpF_mv {l : List Smp} (h : smpF l = 0) : smpF (mvL l) = 0 ∨ smpF (mvL l) = 1 := by
  obtain ⟨h1, h2, h3⟩ := smpF_zero h
  have key : ∀ i, i < l.length → smpEl (mvL l) i = 0 ∨ smpEl (mvL l) i = 1 := fun i hi => by
    have hz := (smpEl_zero (h2 i hi)).2
    unfold smpEl
    by_cases hb : badS ((mvL l).getD i dS) = true
    · rw [if_pos hb]; exact .inr rfl
    · rw [if_neg hb, if_neg]
      · exact .inl rfl
      · rintro ⟨hi0, hne⟩
        apply hne
        rw [mvL_get hi, mvL_get (show i - 1 < l.length by omega)]
        show (l.getD i dS).time + 1000 = (l.getD (i - 1) dS).time + 1000 + (l.getD (i - 1) dS).step
        have := hz hi0
        omega
  unfold smpF
  rw [mvL_len, if_neg (by omega)]
  by_cases hf : firstF (smpEl (mvL l)) l.length ≠ 0
  · rw [if_pos hf]
    have : ∀ n, n ≤ l.length → firstF (smpEl (mvL l)) n = 0 ∨ firstF (smpEl (mvL l)) n = 1 := by
      intro n
      induction n with
      | zero => intro _; exact .inl rfl
      | succ n ih =>
        intro hn
        have h4 := ih (by omega)
        have h5 := key n (by omega)
        rw [firstF]
        split <;> assumption
    exact this _ (Nat.le_refl _)
  · rw [if_neg hf]
    split
    · exact .inr rfl
    · exact .inl rfl
theorem take_mv {l : List Smp} : l.length ≤ 5000 → (mvL l).length ≤ 5000 := fun h => by rw [mvL_len]; exact h
end Go.Proofs.Ytcbjoangpgcbeaa
