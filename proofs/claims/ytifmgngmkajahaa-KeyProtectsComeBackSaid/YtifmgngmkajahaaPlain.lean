/- Plain facts of the cipher: decB takes encB back, and encB takes decB back. No program in sight. Conditions: lengths as stated. -/
import Derived.Test.YtifmgngmkajahaaCipher
namespace Go.Proofs.Ytifmgngmkajahaa
namespace Kc
/-- One round. -/
def encR (d : UInt32) (k : List UInt8) (a b s : UInt32) : UInt32 × UInt32 := (a + addA k b s, b + addB k (a + addA k b s) (s + d))
def sumF (d : UInt32) (s : UInt32) : Nat → UInt32
  | 0 => s
  | n + 1 => sumF d (s + d) n
theorem sumF_succ (d : UInt32) : ∀ (n : Nat) (s : UInt32), sumF d s (n + 1) = sumF d s n + d
  | 0, _ => rfl
  | n + 1, s => by
    rw [sumF, sumF_succ d n (s + d)]
    rfl
theorem enc_snoc (d : UInt32) (k : List UInt8) : ∀ (n : Nat) (a b s : UInt32), encN d k (n + 1) a b s = encR d k (encN d k n a b s).1 (encN d k n a b s).2 (sumF d s n)
  | 0, a, b, s => rfl
  | n + 1, a, b, s => by
    rw [encN_succ, enc_snoc d k n]
    rw [encN_succ d k n]
    rfl
theorem add_sub32 (a b : UInt32) : a + b - b = a := by
  apply UInt32.toNat_inj.1
  rw [UInt32.toNat_sub, UInt32.toNat_add]
  have := a.toNat_lt; have := b.toNat_lt
  omega
theorem sub_add32 (a b : UInt32) : a - b + b = a := by
  apply UInt32.toNat_inj.1
  rw [UInt32.toNat_add, UInt32.toNat_sub]
  have := a.toNat_lt; have := b.toNat_lt
  omega
theorem dec_enc (d : UInt32) (k : List UInt8) : ∀ (n : Nat) (a b s : UInt32), decN d k n (encN d k n a b s).1 (encN d k n a b s).2 (sumF d s n) = (a, b)
  | 0, _, _, _ => rfl
  | n + 1, a, b, s => by
    rw [enc_snoc, sumF_succ, decN_succ]
    generalize hx : encN d k n a b s = r
    obtain ⟨x, y⟩ := r
    generalize hS : sumF d s n = S
    simp only [encR]
    rw [add_sub32, add_sub32, add_sub32]
    have := dec_enc d k n a b s
    rw [hx, hS] at this
    exact this
theorem enc_dec (d : UInt32) (k : List UInt8) : ∀ (n : Nat) (a b s : UInt32), encN d k n (decN d k n a b (sumF d s n)).1 (decN d k n a b (sumF d s n)).2 s = (a, b)
  | 0, _, _, _ => rfl
  | n + 1, a, b, s => by
    rw [sumF_succ, decN_succ, add_sub32, enc_snoc, enc_dec d k n]
    simp only [encR]
    rw [sub_add32, sub_add32]
theorem sumF_zero (d : UInt32) : ∀ n, sumF d 0 n = sumN d n
  | 0 => rfl
  | n + 1 => by rw [sumF_succ, sumN, sumF_zero d n]

theorem toNat_word4 (b0 b1 b2 b3 : UInt8) : (word4 b0 b1 b2 b3).toNat = b0.toNat * 16777216 + b1.toNat * 65536 + b2.toNat * 256 + b3.toNat := by
  have h0 := b0.toNat_lt; have h1 := b1.toNat_lt; have h2 := b2.toNat_lt; have h3 := b3.toNat_lt
  have e0 : (b0.toUInt32 <<< 24).toNat = b0.toNat * 2 ^ 24 := by
    rw [UInt32.toNat_shiftLeft, UInt8.toNat_toUInt32]
    simp [Nat.shiftLeft_eq]; omega
  have e1 : (b1.toUInt32 <<< 16).toNat = b1.toNat * 2 ^ 16 := by
    rw [UInt32.toNat_shiftLeft, UInt8.toNat_toUInt32]
    simp [Nat.shiftLeft_eq]; omega
  have e2 : (b2.toUInt32 <<< 8).toNat = b2.toNat * 2 ^ 8 := by
    rw [UInt32.toNat_shiftLeft, UInt8.toNat_toUInt32]
    simp [Nat.shiftLeft_eq]; omega
  unfold word4
  rw [UInt32.toNat_or, UInt32.toNat_or, UInt32.toNat_or, e0, e1, e2, UInt8.toNat_toUInt32]
  have j1 : b0.toNat * 2 ^ 24 ||| b1.toNat * 2 ^ 16 = b0.toNat * 2 ^ 24 + b1.toNat * 2 ^ 16 := by
    rw [Nat.mul_comm b0.toNat, ← Nat.two_pow_add_eq_or_of_lt (by omega)]
  have j2 : (b0.toNat * 2 ^ 24 + b1.toNat * 2 ^ 16) ||| b2.toNat * 2 ^ 8 = b0.toNat * 2 ^ 24 + b1.toNat * 2 ^ 16 + b2.toNat * 2 ^ 8 := by
    rw [show b0.toNat * 2 ^ 24 + b1.toNat * 2 ^ 16 = 2 ^ 16 * (b0.toNat * 2 ^ 8 + b1.toNat) by omega, ← Nat.two_pow_add_eq_or_of_lt (by omega)]
  have j3 : (b0.toNat * 2 ^ 24 + b1.toNat * 2 ^ 16 + b2.toNat * 2 ^ 8) ||| b3.toNat = b0.toNat * 2 ^ 24 + b1.toNat * 2 ^ 16 + b2.toNat * 2 ^ 8 + b3.toNat := by
    rw [show b0.toNat * 2 ^ 24 + b1.toNat * 2 ^ 16 + b2.toNat * 2 ^ 8 = 2 ^ 8 * (b0.toNat * 2 ^ 16 + b1.toNat * 2 ^ 8 + b2.toNat) by omega, ← Nat.two_pow_add_eq_or_of_lt (by omega)]
  rw [j1, j2, j3]
theorem shr_u8 (x : UInt32) : (x >>> 24).toUInt8.toNat = x.toNat / 16777216 % 256 ∧ (x >>> 16).toUInt8.toNat = x.toNat / 65536 % 256 ∧ (x >>> 8).toUInt8.toNat = x.toNat / 256 % 256 ∧ x.toUInt8.toNat = x.toNat % 256 := by
  refine ⟨?_, ?_, ?_, ?_⟩
  all_goals rw [UInt32.toNat_toUInt8]
  all_goals try rw [UInt32.toNat_shiftRight]
  all_goals simp [Nat.shiftRight_eq_div_pow]
theorem bytes4_word4 (b0 b1 b2 b3 : UInt8) : bytes4 (word4 b0 b1 b2 b3) = [b0, b1, b2, b3] := by
  have h0 := b0.toNat_lt; have h1 := b1.toNat_lt; have h2 := b2.toNat_lt; have h3 := b3.toNat_lt
  have hw := toNat_word4 b0 b1 b2 b3
  obtain ⟨e0, e1, e2, e3⟩ := shr_u8 (word4 b0 b1 b2 b3)
  unfold bytes4
  congr 1
  · apply UInt8.toNat_inj.1; rw [e0, hw]; omega
  congr 1
  · apply UInt8.toNat_inj.1; rw [e1, hw]; omega
  congr 1
  · apply UInt8.toNat_inj.1; rw [e2, hw]; omega
  congr 1
  apply UInt8.toNat_inj.1; rw [e3, hw]; omega
theorem word_bytes4 (a : UInt32) (r : List UInt8) : wordL (bytes4 a ++ r) = a := by
  obtain ⟨e0, e1, e2, e3⟩ := shr_u8 a
  have ha := a.toNat_lt
  show word4 _ _ _ _ = a
  apply UInt32.toNat_inj.1
  rw [toNat_word4]
  show (a >>> 24).toUInt8.toNat * 16777216 + (a >>> 16).toUInt8.toNat * 65536 + (a >>> 8).toUInt8.toNat * 256 + a.toUInt8.toNat = _
  rw [e0, e1, e2, e3]
  omega
theorem words_bytes8 (a b : UInt32) : wordL (bytes8 a b) = a ∧ wordL ((bytes8 a b).drop 4) = b := by
  refine ⟨word_bytes4 a _, ?_⟩
  have : (bytes8 a b).drop 4 = bytes4 b ++ [] := by rw [List.append_nil]; rfl
  rw [this]
  exact word_bytes4 b []
theorem bytes8_words (l : List UInt8) (h : l.length = 8) : bytes8 (wordL l) (wordL (l.drop 4)) = l := by
  match l, h with
  | [b0, b1, b2, b3, b4, b5, b6, b7], _ =>
    show bytes4 (word4 b0 b1 b2 b3) ++ bytes4 (word4 b4 b5 b6 b7) = _
    rw [bytes4_word4, bytes4_word4]
    rfl
theorem decB_encB (k b : List UInt8) (h : b.length = 8) : decB k (encB k b) = b := by
  have h1 := dec_enc delta k 16 (wordL b) (wordL (b.drop 4)) 0
  rw [sumF_zero] at h1
  unfold encB decB
  simp only []
  rw [(words_bytes8 _ _).1, (words_bytes8 _ _).2, h1]
  exact bytes8_words b h
theorem encB_decB (k b : List UInt8) (h : b.length = 8) : encB k (decB k b) = b := by
  have h1 := enc_dec delta k 16 (wordL b) (wordL (b.drop 4)) 0
  rw [sumF_zero] at h1
  unfold encB decB
  simp only []
  rw [(words_bytes8 _ _).1, (words_bytes8 _ _).2, h1]
  exact bytes8_words b h
end Kc
end Go.Proofs.Ytifmgngmkajahaa
