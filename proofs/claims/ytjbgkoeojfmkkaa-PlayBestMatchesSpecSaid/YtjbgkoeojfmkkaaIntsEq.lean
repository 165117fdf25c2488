/- Walk of slices.Equal of numbers. Condition: none. -/
import Derived.Test.YtjbgkoeojfmkkaaOut
namespace Go.Proofs.Ytjbgkoeojfmkkaa
open Go.RowKit

set_option maxHeartbeats 1000000 in
/-- Two slices that read as one list. -/
theorem intsEq_true {A1 A2 : Option Addr} {n1 c1 n2 c2 : Nat} {l : List Int} {w : World} (h1 : At w 1 e64 A1 n1 c1 l) (h2 : At w 1 e64 A2 n2 c2 l) :
    Calls Try.prog 24 #[.slice A1 n1 c1, .slice A2 n2 c2] w fun e w' => e = .returned (.bool true) ∧ Ext w w' := by
  obtain rfl : n1 = n2 := h1.len.symm.trans h2.len
  have hb := h1.bound
  have H1 := hide h1; have H2 := hide h2
  clear h1 h2
  go_enter Try.func24, Try.ntmps24
  go_wp2_with fail
  go_loopw [13] (fun ri wr => ∃ k : Nat, k ≤ n1 ∧ ri = .int .i64 k ∧ Hid (Ext w wr)) (fun i _ => n1 - (intOf i).toNat)
  case atStart => exact ⟨0, by omega, rfl, hide (Ext.refl _)⟩
  case round =>
    obtain ⟨k, hk, rfl, HX⟩ := hrel
    by_cases hlt : k < n1
    · obtain ⟨b, off, rfl, _⟩ := H1.out.addr (by omega)
      obtain ⟨b2, off2, rfl, _⟩ := H2.out.addr (by omega)
      have a1 := (H1.out.ext HX.out).num hlt
      have a2 := (H2.out.ext HX.out).num hlt
      generalize l.getD k 0 = y at *
      have i1 : (k : Int) < (n1 : Int) := by omega
      have i0 : (0 : Int) ≤ (k : Int) := by omega
      go_wp2_with fail
      go_quiet (fail)
      go_wp2
      go_roundw
      case rel => exact ⟨k + 1, by omega, by go_num, below_drewN HX.out _⟩
      case measure => simp [intOf]; omega
    · have hkn : k = n1 := by omega
      clear hkn
      go_wp2
      go_ret
      exact ⟨rfl, HX.out⟩
end Go.Proofs.Ytjbgkoeojfmkkaa
