/- Walks of the small functions of the cipher: word, mix, words, wordBytes, encrypt, decrypt, xor. Conditions: lengths as stated. -/
import Derived.Test.YtfpmjaeehhegcaaProg
import Derived.Test.YtfpmjaeehhegcaaBase
import Derived.Test.YtfpmjaeehhegcaaCipher
namespace Go.Proofs.Ytfpmjaeehhegcaa
open Go.RowKit Kc

theorem u32_xor (a b : UInt32) : bits .xor .u32 (a.toNat : Int) (b.toNat : Int) = ((a ^^^ b).toNat : Int) := by
  rw [u32_xor_nat _ _ (u32lt a) (u32lt b), UInt32.toNat_xor]
theorem u32_or (a b : UInt32) : bits .or .u32 (a.toNat : Int) (b.toNat : Int) = ((a ||| b).toNat : Int) := by
  rw [u32_or_nat _ _ (u32lt a) (u32lt b), UInt32.toNat_or]
theorem u32_and (a b : UInt32) : bits .and .u32 (a.toNat : Int) (b.toNat : Int) = ((a &&& b).toNat : Int) := by
  rw [u32_and_nat _ _ (u32lt a) (u32lt b), UInt32.toNat_and]
theorem u32_add (a b : UInt32) : ((a.toNat : Int) + (b.toNat : Int)) % (4294967296 : Int) = ((a + b).toNat : Int) := by
  rw [UInt32.toNat_add]; omega
theorem u32_sub (a b : UInt32) : ((a.toNat : Int) - (b.toNat : Int)) % (4294967296 : Int) = ((a - b).toNat : Int) := by
  have := u32lt a; have := u32lt b
  rw [UInt32.toNat_sub]; omega
theorem u32_shl4 (a : UInt32) : (a.toNat : Int) * (16 : Int) % (4294967296 : Int) = ((a <<< 4).toNat : Int) := by
  rw [UInt32.toNat_shiftLeft]; simp [Nat.shiftLeft_eq]
theorem u32_shr5 (a : UInt32) : (a.toNat : Int) / (32 : Int) = ((a >>> 5).toNat : Int) := by
  rw [UInt32.toNat_shiftRight]; simp [Nat.shiftRight_eq_div_pow]
theorem u32_shr11 (a : UInt32) : (a.toNat : Int) / (2048 : Int) = ((a >>> 11).toNat : Int) := by
  rw [UInt32.toNat_shiftRight]; simp [Nat.shiftRight_eq_div_pow]
theorem u32_of8 (x : UInt8) : (x.toNat : Int) % (4294967296 : Int) = ((x.toUInt32).toNat : Int) := by
  have := u8lt x; rw [UInt8.toNat_toUInt32]; omega
theorem u32_shl24 (x : UInt32) : (x.toNat : Int) * (16777216 : Int) % (4294967296 : Int) = ((x <<< 24).toNat : Int) := by
  rw [UInt32.toNat_shiftLeft]; simp [Nat.shiftLeft_eq]
theorem u32_shl16 (x : UInt32) : (x.toNat : Int) * (65536 : Int) % (4294967296 : Int) = ((x <<< 16).toNat : Int) := by
  rw [UInt32.toNat_shiftLeft]; simp [Nat.shiftLeft_eq]
theorem u32_shl8 (x : UInt32) : (x.toNat : Int) * (256 : Int) % (4294967296 : Int) = ((x <<< 8).toNat : Int) := by
  rw [UInt32.toNat_shiftLeft]; simp [Nat.shiftLeft_eq]

/-- mix -/
theorem mix_any (x : UInt32) (w : World) :
    Calls Try.prog 59 #[.int .u32 (x.toNat : Int)] w fun e w' => e = .returned (.int .u32 ((mixU x).toNat : Int)) ∧ w = w' := by
  go_enter Try.func59, Try.ntmps59
  go_wp2
  go_ret
  exact ⟨ret_int (by rw [u32_shl4, u32_shr5, u32_xor, u32_add]; rfl), rfl⟩

/-- word, of cells. -/
theorem word_cells (b off : Nat) (n c : Nat) (b0 b1 b2 b3 : UInt8) (w : World) (hn : 4 ≤ n) (hn2 : n ≤ 9223372036854775807)
    (h0 : w.cell? ⟨b, off, none⟩ = some (B8 b0)) (h1 : w.cell? ⟨b, off + 1, none⟩ = some (B8 b1))
    (h2 : w.cell? ⟨b, off + 2, none⟩ = some (B8 b2)) (h3 : w.cell? ⟨b, off + 3, none⟩ = some (B8 b3)) :
    Calls Try.prog 58 #[.slice (some ⟨b, off, none⟩) n c] w fun e w' => e = .returned (.int .u32 ((word4 b0 b1 b2 b3).toNat : Int)) ∧ ∃ n, w' = w.drewN n := by
  have i0 : (0:Int) < (n : Int) := by omega
  have i1 : (1:Int) < (n : Int) := by omega
  have i2 : (2:Int) < (n : Int) := by omega
  have i3 : (3:Int) < (n : Int) := by omega
  go_enter Try.func58, Try.ntmps58
  go_wp2_with fail
  go_quiet (fail)
  go_wp2
  go_ret
  refine ⟨ret_int ?_, _, rfl⟩
  rw [u32_of8, u32_of8, u32_of8, u32_of8, u32_shl24, u32_shl16, u32_shl8, u32_or, u32_or, u32_or]; rfl
theorem word_any {A : Option Addr} {n c : Nat} {l : List UInt8} {w : World} (h : At w 1 e8 A n c l) (hn : 4 ≤ n) :
    Calls Try.prog 58 #[.slice A n c] w fun e w' => e = .returned (.int .u32 ((wordL l).toNat : Int)) ∧ ∃ n, w' = w.drewN n := by
  obtain ⟨b, off, rfl, hc⟩ := h.addr (by omega)
  have hl := h.len
  have g : ∀ k (hk : k < n), w.cell? ⟨b, off + k, none⟩ = some (B8 (l.getD k 0)) := fun k hk => by
    have := hc k (by omega) 0 _ rfl
    rw [show l.getD k 0 = l[k] by simp [List.getD, show k < l.length by omega]]
    simpa using this
  exact word_cells b off n c _ _ _ _ w hn h.bound (g 0 (by omega)) (g 1 (by omega)) (g 2 (by omega)) (g 3 (by omega))
end Go.Proofs.Ytfpmjaeehhegcaa
