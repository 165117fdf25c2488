/- Walks: bytes.Equal, sameBoxes of one tree told twice. Conditions as stated. -/
import Derived.Test.YtkdmfkpkelnheaaBoxC
import Derived.Lib.Bytes
import Derived.Deep.DeepCutAuto
namespace Go.Proofs.Ytkdmfkpkelnheaa
open Go.RowKit
/-- The string of bytes. -/
def strB (l : List UInt8) : ByteArray := ⟨l.toArray⟩
theorem convert_bytes {w : World} {A : Option Addr} {n c : Nat} {l : List UInt8} (h : At w 1 e8 A n c l) :
    (convert 38 9 (.slice A n c)).run Try.prog w = .ok (.string (strB l)) w := by
  rcases Nat.eq_zero_or_pos n with h0 | h0
  · subst h0
    obtain rfl : l = [] := List.eq_nil_of_length_eq_zero h.len
    rw [run_convert_bytes_string w _ _ 5 A 0 c Try.underlying38 Try.underlying5 Try.underlying9]
    cases A <;> simp [Conv.bytesToString, loadCells]
    all_goals rfl
  · exact conv_bytes h h0
theorem bytesEq_any {A1 A2 : Option Addr} {n1 c1 n2 c2 : Nat} {l m : List UInt8} {w : World} (h1 : At w 1 e8 A1 n1 c1 l) (h2 : At w 1 e8 A2 n2 c2 m) :
    Calls Try.prog 20 #[.slice A1 n1 c1, .slice A2 n2 c2] w fun e w' => e = .returned (.bool (l == m)) ∧ w = w' := by
  have k1 := convert_bytes h1
  have k2 := convert_bytes h2
  generalize hs : strB l = s at k1
  generalize ht : strB m = t at k2
  have H1 := hide hs
  have H2 := hide ht
  clear h1 h2 hs ht
  go_enter Try.func20, Try.ntmps20
  go_wp2
  go_ret
  refine ⟨ret_bool ?_, rfl⟩
  rw [← H1.out, ← H2.out]
  simp [strB, ByteArray.toList_eq]
theorem drewN_add (w : World) (a b : Nat) : (w.drewN a).drewN b = w.drewN (a + b) := World.drewN_drewN _ _ _
theorem BxsAt.parts {w : World} {G : Nat → Prop} {A : Option Addr} {n c : Nat} {l : List BoxT} (h : BxsAt w G A n c l) : ∃ hs : List BoxH, At w 4 eBx A n c hs ∧ hs.length = l.length ∧ (∀ (i : Nat) (y : BoxH) (x : BoxT), hs[i]? = some y → l[i]? = some x → BxHd w G y x) ∧
    (∀ (i : Nat) (y : BoxH) (x : BoxT), hs[i]? = some y → l[i]? = some x → BxsAt w G y.kA y.kn y.kc x.kids) := by
  cases h with
  | mk hs l3 a1 a2 a3 a4 a5 => exact ⟨hs, a1, a3, a4, a5⟩
end Go.Proofs.Ytkdmfkpkelnheaa
