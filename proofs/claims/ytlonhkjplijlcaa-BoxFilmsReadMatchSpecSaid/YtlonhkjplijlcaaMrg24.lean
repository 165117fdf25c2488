/- Walk: compact (reference). Conditions as stated. -/
import Derived.Test.YtlonhkjplijlcaaMrg23
namespace Go.Proofs.Ytlonhkjplijlcaa
open Go.RowKit
/-- What a round's grown reads. -/
def SGr (gf j b q : Nat) (v : Value) (x : Int) (w' : World) : Prop := w'.cell? ⟨gf, j, none⟩ = some v ∧ w'.cell? ⟨b, q, none⟩ = some (.int .i64 x)
theorem SGr.ext {gf j b q : Nat} {v : Value} {x : Int} {w w' : World} (h : SGr gf j b q v x w) (he : Ext w w') : SGr gf j b q v x w' := ⟨he.cell h.1, he.cell h.2⟩
theorem LA.own {α : Type} {W : World} {base sz : Nat} {t : TypeId} {enc : α → List Value} {v : Value} {l : List α} (h : Own W base t sz enc v l) (hsz : ∀ x, (enc x).length = sz) : ∃ A c, v = .slice A l.length c ∧ LA W base sz enc A l.length c l := by
  obtain ⟨A, c, hv, ha⟩ := h.at_ hsz
  exact ⟨A, c, hv, ha, fun a hq => (h.lt a.block (by rw [hv, hq]; rfl)).1⟩
end Go.Proofs.Ytlonhkjplijlcaa
