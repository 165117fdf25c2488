/- Walk: marks (reference). Conditions as stated. -/
import Derived.Test.YtkdmfkpkelnheaaMrkP
import Derived.Test.YtkdmfkpkelnheaaSmpA
import Derived.Deep.DeepCutAuto
namespace Go.Proofs.Ytkdmfkpkelnheaa
open Go.RowKit
theorem mk3_sub1 (b c : Bool) : mk3 true b c = mk3 false b c + 1 := by cases b <;> cases c <;> rfl
theorem mk3_sub2 (a c : Bool) : mk3 a true c = mk3 a false c + 2 := by cases a <;> cases c <;> rfl
theorem mk3_sub4 (a b : Bool) : mk3 a b true = mk3 a b false + 4 := by cases a <;> cases b <;> rfl
theorem mk3_bit1 (a b c : Bool) : mk3 a b c % 2 = if a = true then 1 else 0 := by cases a <;> cases b <;> cases c <;> rfl
theorem mk3_bit2 (a b c : Bool) : mk3 a b c / 2 % 2 = if b = true then 1 else 0 := by cases a <;> cases b <;> cases c <;> rfl
theorem mk3_bit4 (a b c : Bool) : mk3 a b c / 4 % 2 = if c = true then 1 else 0 := by cases a <;> cases b <;> cases c <;> rfl
end Go.Proofs.Ytkdmfkpkelnheaa
