/- Walks of the reference's bytesOf and xored: lists that the call makes. Conditions: lengths as stated. -/
import Derived.Test.YtfpmjaeehhegcaaKeyF
namespace Go.Proofs.Ytfpmjaeehhegcaa
open Go.RowKit Kc

theorem Try.info5 : (Try.prog.info? 5).map (fun i => (i.zero, i.size, i.bytes)) = some (some (.int .u8 0), 1, 1) := by kernel_rfl
/-- A number's bytes, so many, the most significant one first. -/
def beL (many x : Nat) : List UInt8 := (List.range many).map fun j => UInt8.ofNat (x / 256 ^ (many - 1 - j))
/-- .. as far as k of them, from the end, are written. -/
def beC (many x k : Nat) : List Value := (List.range many).map fun j => if many - k ≤ j then B8 (UInt8.ofNat (x / 256 ^ (many - 1 - j))) else .int .u8 0
theorem beC_set (many x k : Nat) (hk : k < many) : (beC many x k).set (many - 1 - k) (B8 (UInt8.ofNat (x / 256 ^ k))) = beC many x (k + 1) := by
  apply List.ext_getElem
  · simp [beC]
  · intro i h1 h2
    simp only [beC, List.length_set, List.length_map, List.length_range] at h1
    simp only [beC, List.getElem_set, List.getElem_map, List.getElem_range]
    by_cases e : many - 1 - k = i
    · subst e
      rw [if_pos rfl, if_pos (by omega), show many - 1 - (many - 1 - k) = k by omega]
    · rw [if_neg e]
      by_cases e2 : many - k ≤ i
      · rw [if_pos e2, if_pos (by omega)]
      · rw [if_neg e2, if_neg (by omega)]
theorem beC_all (many x : Nat) : beC many x many = (beL many x).map B8 := by
  apply List.ext_getElem <;> simp [beC, beL]
theorem beC_zero (many x : Nat) : beC many x 0 = (madeCells #[Value.int .u8 0] many).toList := by
  apply List.ext_getElem
  · simp [beC, madeCells]
  · intro i h1 h2
    simp only [beC, List.length_map, List.length_range] at h1
    simp [beC, madeCells, Nat.mod_one]
    omega
theorem beC_get (many x k : Nat) (hk : k < many) : (beC many x k)[many - 1 - k]? = some (.int .u8 0) := by
  simp only [beC, List.getElem?_map, List.getElem?_range (show many - 1 - k < many by omega)]
  simp; omega
theorem length_beL (many x : Nat) : (beL many x).length = many := by simp [beL]

/-- Two lists, xored one by one, as far as k. -/
def xrL (l m : List UInt8) : List UInt8 := (List.range l.length).map fun j => l.getD j 0 ^^^ m.getD j 0
def xrC (l m : List UInt8) (k : Nat) : List Value := (List.range l.length).map fun j => if j < k then B8 (l.getD j 0 ^^^ m.getD j 0) else .int .u8 0
theorem length_xrL (l m : List UInt8) : (xrL l m).length = l.length := by simp [xrL]
theorem xrC_zero (l m : List UInt8) : xrC l m 0 = (madeCells #[Value.int .u8 0] l.length).toList := by
  apply List.ext_getElem
  · simp [xrC, madeCells]
  · intro i h1 h2
    simp [xrC, madeCells, Nat.mod_one]
theorem xrC_all (l m : List UInt8) : xrC l m l.length = (xrL l m).map B8 := by
  apply List.ext_getElem
  · simp [xrC, xrL]
  · intro i h1 h2
    simp only [xrC, List.length_map, List.length_range] at h1
    simp [xrC, xrL, h1]
theorem xrC_get (l m : List UInt8) (k : Nat) (hk : k < l.length) : (xrC l m k)[k]? = some (.int .u8 0) := by
  simp [xrC, List.getElem?_map, List.getElem?_range hk]
theorem xrC_set (l m : List UInt8) (k : Nat) : (xrC l m k).set k (B8 (l.getD k 0 ^^^ m.getD k 0)) = xrC l m (k + 1) := by
  apply List.ext_getElem
  · simp [xrC]
  · intro i h1 h2
    simp only [xrC, List.getElem_set, List.getElem_map, List.getElem_range]
    by_cases e : k = i
    · subst e; simp
    · rw [if_neg e]
      by_cases e2 : i < k
      · rw [if_pos e2, if_pos (by omega)]
      · rw [if_neg e2, if_neg (by omega)]

end Go.Proofs.Ytfpmjaeehhegcaa
