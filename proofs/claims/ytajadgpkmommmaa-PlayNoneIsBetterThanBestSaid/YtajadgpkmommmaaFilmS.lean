/- Walks: sum (both). Conditions: the numbers are from 0 to 1000000000, at most 200 of them. -/
import Derived.Test.YtajadgpkmommmaaOut
namespace Go.Proofs.Ytajadgpkmommmaa
open Go.RowKit
def sumI (l : List Int) (k : Nat) : Int := (l.take k).sum
theorem sumI_succ {l : List Int} {k : Nat} (h : k < l.length) : sumI l (k + 1) = sumI l k + l.getD k 0 := by
  unfold sumI
  rw [List.take_add_one, List.sum_append]
  simp [List.getD, h]
theorem sumI_bound {l : List Int} (h : ∀ i, i < l.length → 0 ≤ l.getD i 0 ∧ l.getD i 0 ≤ 1000000000) : ∀ k, k ≤ l.length → 0 ≤ sumI l k ∧ sumI l k ≤ 1000000000 * (k : Int)
  | 0, _ => by simp [sumI]
  | k + 1, hk => by
    have := sumI_bound h k (by omega)
    have h2 := h k (by omega)
    rw [sumI_succ (by omega)]
    omega
set_option maxRecDepth 100000 in
set_option maxHeartbeats 1000000 in
theorem keySum_any {A : Option Addr} {n c : Nat} {l : List Int} {w : World} (h : At w 1 e64 A n c l) (hn : n ≤ 200) (hv : ∀ i, i < l.length → 0 ≤ l.getD i 0 ∧ l.getD i 0 ≤ 1000000000) :
    Calls Try.prog 52 #[.slice A n c] w fun e w' => e = .returned (.int .i64 l.sum) ∧ w = w' := by
  have hl := h.len
  have HS : Hid (sumI l n = l.sum) := hide (by unfold sumI; rw [← hl, List.take_length])
  have HB := hide (fun k (hk : k ≤ n) => sumI_bound hv k (by omega))
  have HC := hide (fun k (hk : k < n) => sumI_succ (l := l) (k := k) (by omega))
  have H := hide h
  clear hv h hl
  go_enter Try.func52, Try.ntmps52
  go_wp2
  go_loop [3, 8] (fun rs ri => ∃ k : Nat, k ≤ n ∧ rs = .int .i64 (sumI l k) ∧ ri = .int .i64 k) (fun _ ri => n - (intOf ri).toNat)
  case atStart => exact ⟨0, by omega, by simp [sumI], rfl⟩
  case round =>
    obtain ⟨k, hk, rfl, rfl⟩ := hrel
    by_cases hlt : k < n
    · obtain ⟨b, off, rfl, _⟩ := H.out.addr (by omega)
      have a1 := H.out.num hlt
      have b0 := HB.out k hk
      have b1 := HB.out (k + 1) (by omega)
      have hc := HC.out k hlt
      generalize l.getD k 0 = x at *
      obtain ⟨s1, hq1⟩ : ∃ s, s = sumI l (k + 1) := ⟨_, rfl⟩
      rw [← hq1] at b1 hc
      have HQ := hide hq1.symm
      clear hq1
      generalize sumI l k = s0 at *
      have hs1 : 0 ≤ s0 + x := by omega
      have hs2 : s0 + x ≤ 200000000000 := by omega
      have HS1 := hide hc.symm
      clear hc b0 b1
      go_wp2
      go_round
      case rel => exact ⟨k + 1, by omega, by rw [HQ.out]; exact congrArg _ HS1.out, by rw [Int.natCast_add]; rfl⟩
      case measure => simp [intOf]; omega
    · obtain rfl : k = n := by omega
      go_wp2
      go_ret
      exact ⟨ret_int HS.out, rfl⟩
end Go.Proofs.Ytajadgpkmommmaa
