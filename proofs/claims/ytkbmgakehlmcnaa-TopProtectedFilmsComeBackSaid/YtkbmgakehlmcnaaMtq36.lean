/- Walk: compact (reference). Conditions as stated. -/
import Derived.Test.YtkbmgakehlmcnaaMtq26
import Derived.Test.YtkbmgakehlmcnaaMtq35
namespace Go.Proofs.Ytkbmgakehlmcnaa
open Go.RowKit
def SGr (gf j b q : Nat) (v : Value) (x : Int) (w' : World) : Prop := w'.cell? ⟨gf, j, none⟩ = some v ∧ w'.cell? ⟨b, q, none⟩ = some (.int .i64 x)
theorem SGr.ext {gf j b q : Nat} {v : Value} {x : Int} {w w' : World} (h : SGr gf j b q v x w) (he : Ext w w') : SGr gf j b q v x w' := ⟨he.cell h.1, he.cell h.2⟩
theorem LA.own {α : Type} {W : World} {base sz : Nat} {t : TypeId} {enc : α → List Value} {v : Value} {l : List α} (h : Own W base t sz enc v l) (hsz : ∀ x, (enc x).length = sz) : ∃ A c, v = .slice A l.length c ∧ LA W base sz enc A l.length c l := by
  obtain ⟨A, c, hv, ha⟩ := h.at_ hsz
  exact ⟨A, c, hv, ha, fun a hq => (h.lt a.block (by rw [hv, hq]; rfl)).1⟩
theorem own_some {α : Type} {W : World} {base sz : Nat} {t : TypeId} {enc : α → List Value} {v : Value} {l : List α} (h : Own W base t sz enc v l) (hn : v ≠ .slice none 0 0) : ∃ g c, v = .slice (some ⟨g, 0, none⟩) l.length c := by
  rcases h.2 with ⟨h1, _⟩ | ⟨g, cap, cur, hv, _⟩
  · exact absurd h1 hn
  · exact ⟨g, cap, hv⟩
end Go.Proofs.Ytkbmgakehlmcnaa
