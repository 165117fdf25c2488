/- Walks: numbers out of bytes, kinds, stop (reference). Conditions as stated. -/
import Derived.Test.YtccmbokodifdoaaBoxA
import Derived.Test.YtccmbokodifdoaaStep
import Derived.Deep.DeepCutAuto
namespace Go.Proofs.Ytccmbokodifdoaa
open Go.RowKit
/-- The number that the reference takes bytes for. -/
def numR (l : List UInt8) : Nat := if l.length = 8 ∧ 18014398509481984 ≤ numB (l.take 7) then 4611686018427387904 else numB l
theorem numR_small {l : List UInt8} (h : l.length < 8) : numR l = numB l := by unfold numR; rw [if_neg (by omega)]
theorem numR_cap {l : List UInt8} (h : l.length = 8) (n : Nat) (hn : n < 4611686018427387904) : (numR l ≤ n ↔ numB l ≤ n) ∧ ∀ m, m < 4611686018427387904 → (numR l = m ↔ numB l = m) := by
  unfold numR
  have e : l = l.take 7 ++ [l[7]] := by
    conv => lhs; rw [← List.take_append_drop 7 l]
    congr 1
    rw [List.drop_eq_getElem_cons (by omega), List.drop_of_length_le (by omega)]
  have e2 : numB l = numB (l.take 7) * 256 + (l[7]).toNat := by
    conv => lhs; rw [e]
    exact numB_snoc _ _
  by_cases hc : l.length = 8 ∧ 18014398509481984 ≤ numB (l.take 7)
  · rw [if_pos hc]; exact ⟨by omega, fun m hm => by omega⟩
  · rw [if_neg hc]; exact ⟨Iff.rfl, fun m hm => Iff.rfl⟩
set_option maxRecDepth 100000 in
set_option maxHeartbeats 1000000 in
theorem number_any {A : Option Addr} {n c : Nat} {l : List UInt8} {w : World} (h : At w 1 e8 A n c l) (hn : n ≤ 8) :
    Calls Try.prog 63 #[.slice A n c] w fun e w' => e = .returned (.int .i64 (numR l)) ∧ w = w' := by
  have hl := h.len
  have H := hide h
  have HL := hide hl
  clear h hl
  go_enter Try.func63, Try.ntmps63
  go_wp2_with fail
  go_loop [3, 4] (fun rn ri => ∃ k : Nat, k ≤ n ∧ ri = .int .i64 k ∧ rn = .int .i64 (numB (l.take k)) ∧ Hid (∀ j, j < k → numB (l.take j) < 18014398509481984)) (fun _ ri => n - (intOf ri).toNat)
  case atStart => exact ⟨0, by omega, rfl, rfl, hide (fun j hj => by omega)⟩
  case round =>
    obtain ⟨k, hk, rfl, rfl, HJ⟩ := hrel
    by_cases hlt : k < n
    · obtain ⟨b, off, rfl, _⟩ := H.out.addr (by omega)
      have hkl : k < l.length := by have := HL.out; omega
      have c1 := H.out.byte hkl
      have i1 : (k : Int) < (n : Int) := by omega
      have hst := numB_take hkl
      have hlt2 := numB_lt k (l.take k) (by rw [List.length_take]; omega)
      by_cases hbig : 18014398509481984 ≤ numB (l.take k)
      · have hk7 : k = 7 := by
          have : ¬ k ≤ 6 := fun h6 => by
            have : 256 ^ k ≤ 256 ^ 6 := Nat.pow_le_pow_right (by omega) h6
            omega
          omega
        have HV : Hid (numR l = 4611686018427387904) := hide (by unfold numR; rw [if_pos ⟨by have := HL.out; omega, by rw [← hk7]; exact hbig⟩])
        generalize numB (l.take k) = q at *
        have i2 : (18014398509481984 : Int) ≤ (q : Int) := by omega
        clear hlt2 hst hbig hk7
        go_wp2_with fail
        go_ret
        exact ⟨by rw [HV.out]; rfl, rfl⟩
      · have HJ2 : Hid (∀ j, j < k + 1 → numB (l.take j) < 18014398509481984) := hide (fun j hj => by
          rcases Nat.lt_succ_iff_lt_or_eq.1 hj with h | h
          · exact HJ.out j h
          · rw [h]; omega)
        generalize numB (l.take k) = q at *
        have hb := (l[k]).toNat_lt
        have i2 : ¬ (18014398509481984 : Int) ≤ (q : Int) := by omega
        have u1 : IntKind.i64.wrap ((q : Int) * 256) = (q : Int) * 256 := by rw [IntKind.wrap_i64]; omega
        have u2 : IntKind.i64.wrap ((q : Int) * 256 + (l[k].toNat : Int)) = (q : Int) * 256 + (l[k].toNat : Int) := by rw [IntKind.wrap_i64]; omega
        have HST : Hid ((q : Int) * 256 + (l[k].toNat : Int) = (numB (l.take (k + 1)) : Int)) := hide (by rw [hst]; push_cast; rfl)
        clear hlt2 hst hbig
        go_wp2_with fail
        exact ⟨⟨k + 1, by omega, by go_num, by rw [HST.out], HJ2⟩, by simp [intOf]; omega⟩
    · obtain rfl : n = k := by omega
      have HE : Hid (l.take n = l) := hide (by rw [← HL.out, List.take_length])
      have HV : Hid (numR l = numB l) := hide (by
        unfold numR
        rw [if_neg]
        rintro ⟨h8, h9⟩
        have := HJ.out 7 (by have := HL.out; omega)
        omega)
      have i1 : ¬ (n : Int) < (n : Int) := by omega
      go_wp2_with fail
      go_ret
      exact ⟨by rw [HV.out, HE.out]; rfl, rfl⟩
end Go.Proofs.Ytccmbokodifdoaa
