/- Words for the rows of this seat: arguments of bytes; the library's Equal of bytes. Conditions as stated. -/
import Derived.Test.YtfpmjaeehhegcaaLawG
import Derived.Test.YtfpmjaeehhegcaaKeyE
namespace Go.Proofs.Ytfpmjaeehhegcaa
open Go.ChangeShapes Go.WideShapes Go.ChangeAt Go.RowKit

theorem Try.cells5 : Try.prog.cellsOf 5 = 1 := by kernel_rfl
theorem Try.bytes5 : Try.prog.bytesOf 5 = 1 := by kernel_rfl
section
variable {H : Type} {enc : TypeId × Value → H}
set_option maxRecDepth 100000 in
theorem open_bytes {W : World} {base : Nat} {v : Value} {d : DataW H} {p : List MemPlace} (hv : Value.okWide Try.prog W .any base 57 v)
    (h : DataW.Trod enc Try.prog W 0 (fun _ => true) true 57 v d p) : ∃ A n c l, v = .slice A n c ∧ At W 1 e8 A n c l ∧ Takes d c :=
  open_bytesP Try.underlying57 Try.underlying5 Try.cells5 hv h
set_option maxRecDepth 100000 in
theorem reach_bytes {ts : List TypeId} {ds : List (DataW H)} (hsz : (DataW.weightsEach Try.prog ts ds).all (· ≤ reachBytes) = true) (j : Nat) (ht : ts[j]? = some 57) {d : DataW H} (hd : ds[j]? = some d) {n c : Nat} (h : Takes d c) (hn : n ≤ c) : n ≤ 140737488351232 := by
  have := reach_of Try.underlying57 hsz j ht hd h hn
  rw [Try.bytes5] at this
  omega
end

/-! ### bytes.Equal -/
/-- The string of bytes. -/
def strB (l : List UInt8) : ByteArray := ⟨l.toArray⟩
set_option maxRecDepth 100000 in
theorem convert_bytes {w : World} {A : Option Addr} {n c : Nat} {l : List UInt8} (h : At w 1 e8 A n c l) :
    (convert 57 9 (.slice A n c)).run Try.prog w = .ok (.string (strB l)) w := by
  rcases Nat.eq_zero_or_pos n with h0 | h0
  · subst h0
    obtain rfl : l = [] := List.eq_nil_of_length_eq_zero h.len
    rw [run_convert_bytes_string w _ _ 5 A 0 c Try.underlying57 Try.underlying5 Try.underlying9]
    cases A <;> simp [Conv.bytesToString, loadCells]
    all_goals rfl
  · obtain ⟨b, off, rfl, _⟩ := h.addr h0
    have := run_convert_bytes_arg (P := Try.prog) w 57 5 Try.underlying57 Try.underlying5 b off n c (l.map fun x => (x.toNat : Int)) (by simp [h.len]) (fun i hi => by
      rw [h.byte hi]
      congr 2
      have := h.len
      simp [List.getD, show i < l.length by omega]) 9 Try.underlying9
    rw [this]
    congr 2
    simp only [strOfNums, strB, List.map_map]
    congr 2
    conv => rhs; rw [← List.map_id l]
    exact List.map_congr_left fun x _ => by simp
end Go.Proofs.Ytfpmjaeehhegcaa
