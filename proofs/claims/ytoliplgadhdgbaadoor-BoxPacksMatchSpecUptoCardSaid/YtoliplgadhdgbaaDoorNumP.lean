/- Numbers as bytes, the greatest first. Plain. -/
import Derived.Test.YtoliplgadhdgbaaDoorBoxP
namespace Go.Proofs.YtoliplgadhdgbaaDoor
/-- The last so many bytes of a number. -/
def beN : Nat → Nat → List UInt8
  | 0, _ => []
  | m + 1, n => beN m (n / 256) ++ [UInt8.ofNat n]
theorem beN_len : ∀ (m n : Nat), (beN m n).length = m
  | 0, _ => rfl
  | m + 1, n => by rw [beN, List.length_append, beN_len m]; rfl
theorem beN_step (n k many : Nat) (hk : k < many) : beN (many - k) (n / 256 ^ k) = beN (many - (k + 1)) (n / 256 ^ (k + 1)) ++ [UInt8.ofNat (n / 256 ^ k)] := by
  rw [show many - k = (many - (k + 1)) + 1 by omega, beN, Nat.div_div_eq_div_mul, Nat.pow_succ]
theorem beN_all (n many : Nat) : beN many n = beN (many - 0) (n / 256 ^ 0) := by simp
theorem beN_numB : ∀ (m n : Nat), n < 256 ^ m → numB (beN m n) = n
  | 0, n, h => by
    have : n = 0 := by simpa using h
    subst this; rfl
  | m + 1, n, h => by
    rw [beN, numB_snoc, beN_numB m (n / 256) (by rw [Nat.pow_succ] at h; exact Nat.div_lt_of_lt_mul (by rw [Nat.mul_comm]; exact h))]
    rw [UInt8.toNat_ofNat']
    omega
theorem numB_beN : ∀ (m : Nat) (l : List UInt8), l.length = m → beN m (numB l) = l
  | 0, l, h => by
    have := List.eq_nil_of_length_eq_zero h
    subst this; rfl
  | m + 1, l, h => by
    have e : l = l.take m ++ [l[m]] := by
      conv => lhs; rw [← List.take_append_drop m l]
      congr 1
      rw [List.drop_eq_getElem_cons (by omega), List.drop_of_length_le (by omega)]
    have h2 : numB l = numB (l.take m) * 256 + (l[m]).toNat := by
      conv => lhs; rw [e]
      exact numB_snoc _ _
    have hb := (l[m]).toNat_lt
    have hd : numB l / 256 = numB (l.take m) := by omega
    rw [beN, hd, numB_beN m (l.take m) (by rw [List.length_take]; omega)]
    conv => rhs; rw [e]
    congr 2
    apply UInt8.toNat_inj.1
    rw [UInt8.toNat_ofNat']
    omega
end Go.Proofs.YtoliplgadhdgbaaDoor
