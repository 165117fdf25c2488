/- Walk of the document's ask. Conditions: none. -/
import Derived.Test.YtifmgngmkajahaaChainA
namespace Go.Proofs.Ytifmgngmkajahaa
open Go.RowKit Kc

theorem ask_any (A1 A2 A3 : Option Addr) (n1 n2 c1 c2 n3 c3 : Nat) (w : World) :
    Calls Try.prog 98 #[.slice A1 n1 c1, .slice A2 n2 c2, .slice A3 n3 c3] w fun e w' => e = .returned (.int .i64 (modeF n1 n2 n3)) ∧ w = w' := by
  unfold modeF
  by_cases h : n1 = 16 ∧ n2 = 8
  · rw [if_neg (by simp [h])]
    obtain ⟨rfl, rfl⟩ := h
    by_cases h3 : 100000 < n3
    · rw [if_pos h3]
      go_enter Try.func98, Try.ntmps98
      go_wp2
      go_ret
      exact ⟨rfl, rfl⟩
    · rw [if_neg h3]
      go_enter Try.func98, Try.ntmps98
      go_wp2
      go_ret
      exact ⟨rfl, rfl⟩
  · rw [if_pos h]
    by_cases h1 : n1 = 16
    · subst h1
      have h2 : ((n2 : Int) != 8) = true := neq_b (by omega)
      clear h
      go_enter Try.func98, Try.ntmps98
      go_wp2
      go_ret
      exact ⟨rfl, rfl⟩
    · have h2 : ((n1 : Int) != 16) = true := neq_b (by omega)
      clear h h1
      go_enter Try.func98, Try.ntmps98
      go_wp2
      go_ret
      exact ⟨rfl, rfl⟩
end Go.Proofs.Ytifmgngmkajahaa
