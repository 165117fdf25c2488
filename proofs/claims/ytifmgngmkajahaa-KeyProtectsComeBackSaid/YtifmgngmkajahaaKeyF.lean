/- Walks of the reference's small functions: number, mixed, bytesOf, xored; slices.Clone of bytes. Conditions: lengths as stated. -/
import Derived.Test.YtifmgngmkajahaaKeyE
namespace Go.Proofs.Ytifmgngmkajahaa
open Go.RowKit Kc

/-- What bytes say, the most significant one first, reckoned in 64 bits. -/
def numU (l : List UInt8) : UInt64 := l.foldl (fun n x => n * 256 + x.toUInt64) 0
theorem numU_snoc (l : List UInt8) (x : UInt8) : numU (l ++ [x]) = numU l * 256 + x.toUInt64 := by simp [numU]
theorem u64_step (n : UInt64) (x : UInt8) : IntKind.u64.wrap (IntKind.u64.wrap ((n.toNat : Int) * 256) + IntKind.u64.wrap (x.toNat : Int)) = ((n * 256 + x.toUInt64).toNat : Int) := by
  simp only [IntKind.wrap_u64]
  rw [UInt64.toNat_add, UInt64.toNat_mul, UInt8.toNat_toUInt64]
  have : (256 : UInt64).toNat = 256 := rfl
  rw [this]
  omega
/-- 'number': the bytes read one by one. -/
theorem number_any {A : Option Addr} {n c : Nat} {l : List UInt8} {w : World} (h : At w 1 e8 A n c l) :
    Calls Try.prog 130 #[.slice A n c] w fun e w' => e = .returned (.int .u64 ((numU l).toNat : Int)) ∧ w = w' := by
  have hb := h.bound
  have hl := h.len
  have H := hide h
  clear h
  have s0 : Hid (numU (l.take 0) = 0) := hide (by simp [numU])
  go_enter Try.func130, Try.ntmps130
  go_wp2_with fail
  go_loop [3, 8] (fun rn ri => ∃ k : Nat, k ≤ n ∧ ri = .int .i64 k ∧ ∃ x : UInt64, rn = .int .u64 (x.toNat : Int) ∧ Hid (numU (l.take k) = x)) (fun _ i => n - (intOf i).toNat)
  case atStart => exact ⟨0, by omega, rfl, 0, rfl, s0⟩
  case round =>
    obtain ⟨k, hk, rfl, x, rfl, hx⟩ := hrel
    by_cases hlt : k < n
    · obtain ⟨b, off, rfl, _⟩ := H.out.addr (by omega)
      have a1 := H.out.byte hlt
      generalize hy : l.getD k 0 = y at *
      have hs : numU (l.take (k + 1)) = x * 256 + y.toUInt64 := by
        rw [List.take_succ_eq_append_getElem (by omega), numU_snoc, hx.out, ← hy]
        simp [List.getD, show k < l.length by omega]
      have HS := hide hs
      have HU := hide (u64_step x y)
      clear hs hy
      go_wp2
      go_round
      case rel => exact ⟨k + 1, by omega, by go_num, x * 256 + y.toUInt64, int_val HU.out, HS⟩
      case measure => simp [intOf]; omega
    · have hkn : l.take k = l := by rw [List.take_of_length_le (by omega)]
      have HK := hide hkn
      clear hkn
      go_wp2
      go_ret
      exact ⟨ret_int (by rw [← hx.out, HK.out]), rfl⟩

theorem u64_xor32 (a b : UInt32) : bits .xor .u64 (a.toNat : Int) (b.toNat : Int) = ((a ^^^ b).toNat : Int) := by
  rw [u64_xor_nat _ _ (by have := u32lt a; omega) (by have := u32lt b; omega), UInt32.toNat_xor]
theorem mixed_eq (h : UInt32) : (bits .xor .u64 ((h.toNat : Int) * 16 % 4294967296) ((h.toNat : Int) / 32) + (h.toNat : Int)) % 4294967296 = ((mixU h).toNat : Int) := by
  rw [u32_shl4, u32_shr5, u64_xor32, u32_add]; rfl
set_option maxHeartbeats 400000 in
theorem mixed_any (h s k : UInt32) (w : World) :
    Calls Try.prog 131 #[.int .u64 (h.toNat : Int), .int .u64 (s.toNat : Int), .int .u64 (k.toNat : Int)] w fun e w' => e = .returned (.int .u64 ((mixU h ^^^ (s + k)).toNat : Int)) ∧ w = w' := by
  have hh := u32lt h
  have hs := u32lt s
  have hk := u32lt k
  have b0 : (0:Int) ≤ bits .xor .u64 ((h.toNat : Int) * 16 % 4294967296) ((h.toNat : Int) / 32) ∧ bits .xor .u64 ((h.toNat : Int) * 16 % 4294967296) ((h.toNat : Int) / 32) ≤ 4294967295 := by
    rw [u32_shl4, u32_shr5, u64_xor32]
    have := u32lt (h <<< 4 ^^^ h >>> 5); omega
  obtain ⟨b1, b2⟩ := b0
  go_enter Try.func131, Try.ntmps131
  go_wp2
  go_ret
  refine ⟨ret_int ?_, rfl⟩
  rw [mixed_eq, u32_add, u64_xor32]
end Go.Proofs.Ytifmgngmkajahaa
