/- Words for slices of slices of numbers. No condition. -/
import Derived.Test.YtoliplgadhdgbaaDoorBase
namespace Go.Proofs.YtoliplgadhdgbaaDoor
open Go.RowKit

/-- The cell of a slice within a slice. -/
abbrev eH (h : Option Addr × Nat × Nat) : List Value := [.slice h.1 h.2.1 h.2.2]
/-- The slice value '.slice A n c' holds slices that read as the lists of xs. -/
structure Rws (w : World) (A : Option Addr) (n c : Nat) (xs : List (List Int)) : Prop where
  len : xs.length = n
  rows : ∃ hs : List (Option Addr × Nat × Nat), At w 1 eH A n c hs ∧ ∀ k, k < n → At w 1 e64 (hs.getD k (none, 0, 0)).1 (hs.getD k (none, 0, 0)).2.1 (hs.getD k (none, 0, 0)).2.2 (xs.getD k [])
section
variable {w w' : World} {A : Option Addr} {n c : Nat} {xs : List (List Int)}
theorem Rws.ext (h : Rws w A n c xs) (he : Ext w w') : Rws w' A n c xs := by
  obtain ⟨hl, hs, h1, h2⟩ := h
  exact ⟨hl, hs, h1.ext he, fun k hk => (h2 k hk).ext he⟩
theorem Rws.bound (h : Rws w A n c xs) : n ≤ 9223372036854775807 := by
  obtain ⟨hl, hs, h1, h2⟩ := h
  exact h1.bound
theorem Rws.addr (h : Rws w A n c xs) (hn : 0 < n) : ∃ b off, A = some ⟨b, off, none⟩ := by
  obtain ⟨hl, hs, h1, h2⟩ := h
  obtain ⟨b, off, e, _⟩ := h1.addr hn
  exact ⟨b, off, e⟩
theorem Rws.row {b off : Nat} (h : Rws w (some ⟨b, off, none⟩) n c xs) {k : Nat} (hk : k < n) :
    ∃ A' n' c', w.cell? ⟨b, off + k, none⟩ = some (.slice A' n' c') ∧ At w 1 e64 A' n' c' (xs.getD k []) := by
  obtain ⟨hl, hs, h1, h2⟩ := h
  have hh := h1.len
  obtain ⟨b', off', e, hc⟩ := h1.cells k _ (List.getElem?_eq_getElem (by omega))
  injection e with e
  injection e with e1 e2
  subst e1 e2
  have := hc 0 _ rfl
  have hg := h2 k hk
  rw [show hs.getD k (none, 0, 0) = hs[k]'(by omega) by simp [List.getD, show k < hs.length by omega]] at hg
  exact ⟨_, _, _, by simpa using this, hg⟩
end
end Go.Proofs.YtoliplgadhdgbaaDoor
