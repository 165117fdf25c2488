/- Plain law: so many blocks of a stream, cut. Conditions: none. -/
import Derived.Test.YtifmgngmkajahaaStreamB
namespace Go.Proofs.Ytifmgngmkajahaa
open Go.RowKit Kc

/-- So many blocks of a stream, from one on. -/
def blksL (k v : List UInt8) (f I : Nat) : List UInt8 := (List.range I).flatMap fun q => blkAt k v (f + q)
theorem blksL_succ (k v : List UInt8) (f I : Nat) : blksL k v f (I + 1) = blksL k v f I ++ blkAt k v (f + I) := by
  simp [blksL, List.range_succ]
theorem length_blkAt (k v : List UInt8) (j : Nat) : (blkAt k v j).length = 8 := rfl
theorem length_blksL (k v : List UInt8) (f : Nat) : ∀ I, (blksL k v f I).length = 8 * I
  | 0 => rfl
  | I + 1 => by rw [blksL_succ, List.length_append, length_blksL k v f I, length_blkAt]; omega
theorem blksL_get (k v : List UInt8) (f : Nat) : ∀ (I i : Nat), i < 8 * I → (blksL k v f I).getD i 0 = (blkAt k v (f + i / 8)).getD (i % 8) 0
  | 0, i, h => by omega
  | I + 1, i, h => by
    rw [blksL_succ]
    by_cases hi : i < 8 * I
    · rw [← blksL_get k v f I i hi, List.getD_eq_getElem?_getD, List.getD_eq_getElem?_getD, List.getElem?_append_left (by rw [length_blksL]; exact hi)]
    · have e1 : i / 8 = I := by omega
      have e2 : i - 8 * I = i % 8 := by omega
      rw [e1, List.getD_eq_getElem?_getD, List.getElem?_append_right (by rw [length_blksL]; omega), length_blksL, e2, ← List.getD_eq_getElem?_getD]
theorem blksL_cut (k v : List UInt8) (p n I : Nat) (h : n + 8 ≤ 8 * I) : ((blksL k v (p / 8) I).drop (p % 8)).take n = strL k v p n := by
  apply List.ext_getElem
  · rw [List.length_take, List.length_drop, length_blksL, length_strL]; omega
  · intro j h1 h2
    rw [length_strL] at h2
    have e := strL_get k v p n j h2
    rw [List.getD_eq_getElem?_getD, List.getElem?_eq_getElem (by rw [length_strL]; exact h2), Option.getD_some] at e
    rw [e]
    have q := blksL_get k v (p / 8) I (p % 8 + j) (by omega)
    rw [List.getD_eq_getElem?_getD, List.getElem?_eq_getElem (by rw [length_blksL]; omega), Option.getD_some] at q
    rw [List.getElem_take, List.getElem_drop, q]
    have a1 : p / 8 + (p % 8 + j) / 8 = (p + j) / 8 := by omega
    have a2 : (p % 8 + j) % 8 = (p + j) % 8 := by omega
    rw [a1, a2]
    rfl
end Go.Proofs.Ytifmgngmkajahaa
