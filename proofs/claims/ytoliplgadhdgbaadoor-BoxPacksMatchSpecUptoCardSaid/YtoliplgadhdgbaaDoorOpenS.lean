/- Arguments of samples, opened. Conditions as stated. -/
import Derived.Test.YtoliplgadhdgbaaDoorOpens3
import Derived.Test.YtoliplgadhdgbaaDoorSmpA
namespace Go.Proofs.YtoliplgadhdgbaaDoor
open Go.ChangeShapes Go.WideShapes Go.ChangeAt Go.RowKit Go.Joins Go.Deep
section
variable {H : Type} {enc : TypeId × Value → H} {W : World} {base : Nat}
/-- The numbers of a sample are ints. -/
def okS (x : Smp) : Prop := (-9223372036854775808 ≤ x.time ∧ x.time ≤ 9223372036854775807) ∧ (-9223372036854775808 ≤ x.step ∧ x.step ≤ 9223372036854775807) ∧ (-9223372036854775808 ≤ x.shift ∧ x.shift ≤ 9223372036854775807) ∧ (-9223372036854775808 ≤ x.size ∧ x.size ≤ 9223372036854775807)
theorem fldBool {P : Program} {t : TypeId} {n : Nat} {v : Value} {y : DataW H × List MemPlace} (ht : P.underlying t = some .bool) (h : DataW.trod enc P W 0 (fun _ => true) true n t [v] = some y) : ∃ b, v = .bool b := by
  obtain ⟨b, hv, _⟩ := DataW.trod_bool ht h
  injection hv with hv _
  exact ⟨b, hv⟩
theorem decSmp {f0 f1 f2 f3 f4 : Field} (h0 : Tryd.prog.underlying f0.type = some (.int .i64)) (h1 : Tryd.prog.underlying f1.type = some (.int .i64)) (h2 : Tryd.prog.underlying f2.type = some (.int .i64)) (h3 : Tryd.prog.underlying f3.type = some (.int .i64)) (h4 : Tryd.prog.underlying f4.type = some .bool)
    (cs : List Value) (n : Nat) (hl : cs.length = 5) (hd : ∀ (j : Nat) (f : Field), #[f0, f1, f2, f3, f4][j]? = some f → ∃ v y, cs[j]? = some v ∧ DataW.trod enc Tryd.prog W 0 (fun _ => true) true n f.type [v] = some y) : ∃ x : Smp, okS x ∧ eSm x = cs := by
  obtain ⟨v0, y0, g0, t0⟩ := hd 0 f0 rfl
  obtain ⟨v1, y1, g1, t1⟩ := hd 1 f1 rfl
  obtain ⟨v2, y2, g2, t2⟩ := hd 2 f2 rfl
  obtain ⟨v3, y3, g3, t3⟩ := hd 3 f3 rfl
  obtain ⟨v4, y4, g4, t4⟩ := hd 4 f4 rfl
  obtain ⟨x0, rfl, b0⟩ := fldInt h0 t0
  obtain ⟨x1, rfl, b1⟩ := fldInt h1 t1
  obtain ⟨x2, rfl, b2⟩ := fldInt h2 t2
  obtain ⟨x3, rfl, b3⟩ := fldInt h3 t3
  obtain ⟨x4, rfl⟩ := fldBool h4 t4
  match cs, hl with
  | [c0, c1, c2, c3, c4], _ =>
    simp at g0 g1 g2 g3 g4
    exact ⟨⟨x0, x1, x2, x3, x4⟩, ⟨b0, b1, b2, b3⟩, by rw [g0, g1, g2, g3, g4]⟩
end
end Go.Proofs.YtoliplgadhdgbaaDoor
