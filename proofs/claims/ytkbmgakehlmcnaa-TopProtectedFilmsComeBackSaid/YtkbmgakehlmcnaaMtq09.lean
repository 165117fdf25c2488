/- Several texts in one: Walks of Chain and Unchain. Conditions: none; Walk of the document's Digest. Condition: the bytes' number is within the reach; Walk of the document's chained. Conditions: lengths as stated. -/
import Derived.Test.YtkbmgakehlmcnaaMtq08
import Derived.Test.YtkbmgakehlmcnaaMtq07
namespace Go.Proofs.Ytkbmgakehlmcnaa
open Go.RowKit Kc
theorem spl_take {α : Type} (xs : List α) (i : Nat) (x : List α) (h : i + x.length ≤ xs.length) : (spl xs i x).take (i + x.length) = xs.take i ++ x := by
  unfold spl
  rw [← List.append_assoc, List.take_append_of_le_length (by simp; omega), List.take_of_length_le (by simp; omega)]
theorem spl_drop {α : Type} (xs : List α) (i : Nat) (x : List α) (h : i + x.length ≤ xs.length) : (spl xs i x).drop (i + x.length) = xs.drop (i + x.length) := by
  unfold spl
  rw [← List.append_assoc, List.drop_append, List.drop_of_length_le (by simp; omega), List.nil_append]
  simp [show min i xs.length = i by omega]
theorem spl_mid {α : Type} (xs : List α) (i : Nat) (x : List α) (h : i + x.length ≤ xs.length) : ((spl xs i x).drop i).take x.length = x := by
  unfold spl
  rw [List.drop_append, List.drop_of_length_le (by simp; omega), List.nil_append]
  simp [show min i xs.length = i by omega]
def selB (c e : Nat) (j : Nat) : Bool := decide (e = 0) || decide (j % e < c)
theorem take_split {α : Type} (xs : List α) (i : Nat) : xs.take (i + 8) = xs.take i ++ (xs.drop i).take 8 := by
  rw [List.take_add]
end Go.Proofs.Ytkbmgakehlmcnaa
