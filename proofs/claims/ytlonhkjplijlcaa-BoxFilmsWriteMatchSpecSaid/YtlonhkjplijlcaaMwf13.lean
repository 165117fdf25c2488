/- Several texts in one: A fragment's bytes in plain words. Plain; Walk: marks (program). Conditions as stated. -/
import Derived.Test.YtlonhkjplijlcaaMwf12
import Derived.Test.YtlonhkjplijlcaaMwf01
namespace Go.Proofs.Ytlonhkjplijlcaa
/-- The fault of a fragment. -/
def fragF (num : Int) (l : List Smp) : Int := if num < 0 ∨ 4294967295 < num then 1 else smpF l
/-- A column of numbers; 'one': the first alone. -/
def colL (f : Smp → Int) (one : Bool) (l : List Smp) (k : Nat) : List UInt8 := (List.range k).flatMap fun i => if i = 0 ∨ one = false then beN 4 (u64n (f (l.getD i dS))) else []
theorem colL_zero (f : Smp → Int) (one : Bool) (l : List Smp) : colL f one l 0 = [] := rfl
theorem colL_succ (f : Smp → Int) (one : Bool) (l : List Smp) (k : Nat) : colL f one l (k + 1) = colL f one l k ++ if k = 0 ∨ one = false then beN 4 (u64n (f (l.getD k dS))) else [] := by
  unfold colL; rw [List.range_succ, List.flatMap_append]; simp
theorem colL_one (f : Smp → Int) (l : List Smp) : ∀ k, colL f true l (k + 1) = colL f true l 1
  | 0 => rfl
  | k + 1 => by rw [colL_succ, colL_one f l k]; simp
theorem colL_len (f : Smp → Int) (one : Bool) (l : List Smp) : ∀ k, (colL f one l k).length ≤ 4 * k
  | 0 => by simp [colL]
  | k + 1 => by
    have := colL_len f one l k
    rw [colL_succ, List.length_append]
    split
    · rw [beN_len]; omega
    · simp; omega
/-- A column that may be left out. -/
def colH (f : Smp → Int) (no : Bool) (l : List Smp) (k : Nat) : List UInt8 := if no = true then [] else colL f false l k
/-- The keys. -/
def keyL (no : Bool) (l : List Smp) (k : Nat) : List UInt8 := (List.range k).flatMap fun i => if no = true then [] else [if (l.getD i dS).key = true then 1 else 0]
theorem keyL_zero (no : Bool) (l : List Smp) : keyL no l 0 = [] := rfl
theorem keyL_succ (no : Bool) (l : List Smp) (k : Nat) : keyL no l (k + 1) = keyL no l k ++ if no = true then [] else [if (l.getD k dS).key = true then 1 else 0] := by
  unfold keyL; rw [List.range_succ, List.flatMap_append]; simp
theorem keyL_no (l : List Smp) : ∀ k, keyL true l k = []
  | 0 => rfl
  | k + 1 => by rw [keyL_succ, keyL_no l k]; rfl
theorem keyL_len (no : Bool) (l : List Smp) : ∀ k, (keyL no l k).length ≤ k
  | 0 => by simp [keyL]
  | k + 1 => by
    have := keyL_len no l k
    rw [keyL_succ, List.length_append]
    split <;> simp <;> omega
/-- The first Time. -/
def timeS (l : List Smp) : Int := if 0 < l.length then (l.getD 0 dS).time else 0
def fhead (num : Int) (l : List Smp) : List UInt8 := beN 4 (u64n num) ++ beN 8 (u64n (timeS l)) ++ beN 2 (u64n l.length) ++ [UInt8.ofNat (mkN l)]
theorem fhead_len (num : Int) (l : List Smp) : (fhead num l).length = 15 := by unfold fhead; simp [beN_len]
def mS (l : List Smp) : Bool := pS l l.length
def mH (l : List Smp) : Bool := pH l l.length
def mZ (l : List Smp) : Bool := pZ l l.length
def mK (l : List Smp) : Bool := decide (0 < l.length) && pK l l.length
def fb1 (num : Int) (l : List Smp) (k : Nat) : List UInt8 := fhead num l ++ colL Smp.step (mS l) l k
def fb2 (num : Int) (l : List Smp) (k : Nat) : List UInt8 := fb1 num l l.length ++ colH Smp.shift (mH l) l k
def fb3 (num : Int) (l : List Smp) (k : Nat) : List UInt8 := fb2 num l l.length ++ colL Smp.size (mZ l) l k
def fb4 (num : Int) (l : List Smp) (k : Nat) : List UInt8 := fb3 num l l.length ++ keyL (mK l) l k
/-- The bytes of a fragment. -/
def fbytes (num : Int) (l : List Smp) : List UInt8 := fb4 num l l.length
theorem fb1_le (num : Int) (l : List Smp) (k : Nat) : (fb1 num l k).length ≤ 15 + 4 * k := by
  unfold fb1; rw [List.length_append, fhead_len]; have := colL_len Smp.step (mS l) l k; omega
theorem fb2_le (num : Int) (l : List Smp) (k : Nat) : (fb2 num l k).length ≤ 15 + 4 * l.length + 4 * k := by
  unfold fb2 colH; rw [List.length_append]; have := colL_len Smp.shift false l k; have := fb1_le num l l.length; split <;> simp <;> omega
theorem fb3_le (num : Int) (l : List Smp) (k : Nat) : (fb3 num l k).length ≤ 15 + 8 * l.length + 4 * k := by
  unfold fb3; rw [List.length_append]; have := colL_len Smp.size (mZ l) l k; have := fb2_le num l l.length; omega
theorem fb4_le (num : Int) (l : List Smp) (k : Nat) : (fb4 num l k).length ≤ 15 + 12 * l.length + k := by
  unfold fb4; rw [List.length_append]; have := keyL_len (mK l) l k; have := fb3_le num l l.length; omega
theorem mkN_form (l : List Smp) : mkN l = mk3 (mS l) (mH l) (mZ l) + (if mK l = true then 8 else 0) := rfl
theorem mkN_and1 (l : List Smp) : mkN l &&& 1 = if mS l = true then 1 else 0 := by
  rw [mkN_form]; cases mS l <;> cases mH l <;> cases mZ l <;> cases mK l <;> rfl
theorem mkN_and2 (l : List Smp) : mkN l &&& 2 = if mH l = true then 2 else 0 := by
  rw [mkN_form]; cases mS l <;> cases mH l <;> cases mZ l <;> cases mK l <;> rfl
theorem mkN_and4 (l : List Smp) : mkN l &&& 4 = if mZ l = true then 4 else 0 := by
  rw [mkN_form]; cases mS l <;> cases mH l <;> cases mZ l <;> cases mK l <;> rfl
theorem mkN_and8 (l : List Smp) : mkN l &&& 8 = if mK l = true then 8 else 0 := by
  rw [mkN_form]; cases mS l <;> cases mH l <;> cases mZ l <;> cases mK l <;> rfl
theorem mkN_bit1 (l : List Smp) : mkN l % 2 = if mS l = true then 1 else 0 := by
  rw [mkN_form]; cases mS l <;> cases mH l <;> cases mZ l <;> cases mK l <;> rfl
theorem mkN_bit2 (l : List Smp) : mkN l / 2 % 2 = if mH l = true then 1 else 0 := by
  rw [mkN_form]; cases mS l <;> cases mH l <;> cases mZ l <;> cases mK l <;> rfl
theorem mkN_bit4 (l : List Smp) : mkN l / 4 % 2 = if mZ l = true then 1 else 0 := by
  rw [mkN_form]; cases mS l <;> cases mH l <;> cases mZ l <;> cases mK l <;> rfl
theorem mkN_bit8 (l : List Smp) : (mkN l < 8) ↔ mK l = false := by
  rw [mkN_form]; cases mS l <;> cases mH l <;> cases mZ l <;> cases mK l <;> simp [mk3]
end Go.Proofs.Ytlonhkjplijlcaa
namespace Go.Proofs.Ytlonhkjplijlcaa
open Go.RowKit
end Go.Proofs.Ytlonhkjplijlcaa
