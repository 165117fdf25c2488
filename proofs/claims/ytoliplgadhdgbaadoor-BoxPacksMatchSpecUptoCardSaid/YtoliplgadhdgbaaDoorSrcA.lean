/- Walks: the program's source (number, flag, end). Conditions as stated. -/
import Derived.Test.YtoliplgadhdgbaaDoorRdP
import Derived.Test.YtoliplgadhdgbaaDoorBoxC
import Derived.Test.YtoliplgadhdgbaaDoorSlice
import Derived.Deep.DeepCutAuto
namespace Go.Proofs.YtoliplgadhdgbaaDoor
open Go.RowKit
abbrev srcC (A : Option Addr) (n c : Nat) (s : Rd) : Array Value := #[.slice A n c, .int .i64 (s.pos : Int), .bool s.bad]
theorem At.twn {α : Type} {w w' : World} {sz : Nat} {enc : α → List Value} {A : Option Addr} {n c : Nat} {xs : List α} {o : Nat} (h : At w sz enc A n c xs) (hF : Tw w w' o none) (hne : 0 < n → ∀ a, A = some a → a.block ≠ o) : At w' sz enc A n c xs := by
  rcases Nat.eq_zero_or_pos n with h0 | h0
  · have hl := h.len
    obtain rfl : xs = [] := List.eq_nil_of_length_eq_zero (by omega)
    exact ⟨h.len, h.le, h.max, h.none_, fun k x hx => by simp at hx⟩
  · exact h.tw hF (fun a ha => ⟨hne h0 a ha, by simp⟩)
end Go.Proofs.YtoliplgadhdgbaaDoor
