/-
  NARROWER THAN 'FOR EVERY INPUT', by the rows' own cells (each row's printed sentence says how): BoxBytesComeBack: loops.
  DERIVED. THE GIVEN ROWS OF THIS SEAT. 1 by the template 'for every input the law returns true; each argument reads behind the call as it read before'; 0 by the template 'total and deterministic' (their statements: YtpmihibdfacomaaTotals.lean).
  GIVEN WITH THE SEED: the statements are not yours to turn. If you find one false, say at which input.
  Laid BY PROGRAM, IN A SANDBOX (cutbox-rows.mjs): the forced cells as the released guide's own fill.sh prints them over the translation 7fc0f4bd82616243… (all of the seat's roots in one cut). By AI agents, Wed Nov 11 2026. No macro, syntax, notation, axiom, sorry.
-/
import Derived.Test.YtpmihibdfacomaaChecked
import GoSem.Claim
import GoSem.ClaimJoined
import GoSem.ClaimMapViews
import Derived.JoinedTies
import Derived.KernelRfl
namespace Go.Proofs.Ytpmihibdfacomaa
/- THE CELL 'sum', in the pinned program and in every row, IS THE sha256 OF THE DUMP (.gsa) THAT YtpmihibdfacomaaProg.lean LOADS. Nothing in Lean hashes anything: it is a label: what it is worth is what the hold of that sum in a sandbox is worth. -/
noncomputable def Try.pinned : Pinned := { name := "ytpmihibdfacomaa", sum := "7fc0f4bd8261624319616ba0c466dc8f3a8079b49bc8ec14732aeb2e491b80f9", checked := Try.checked }
namespace Rows
def none {H : Type} : Left H := { results := [], args := [] }

/-- 'headendlaw2.BoxBytesComeBack': WHATEVER THE INPUT: true; the input reads as it did. -/
def boxBytesComeBackSpec : ChangeSpec := { name := "boxBytesComeBack", fn := fun _ => fun
  | [d1, d2] => { results := [.lit (.bool true)], args := [d1, d2] }
  | _ => none }
def boxBytesComeBackRow : OpenClaim := { program := "ytpmihibdfacomaa", sum := "7fc0f4bd8261624319616ba0c466dc8f3a8079b49bc8ec14732aeb2e491b80f9", func := "headend/headendlaw2.BoxBytesComeBack", spec := "boxBytesComeBack", recurses := true, loops := true, apart := false }
def BoxBytesComeBackSaid : Prop := boxBytesComeBackRow.holds Try.pinned (OpenSpec.ofChange boxBytesComeBackSpec)

/-- ITS FALSE NEIGHBOUR: 'it returns false'. Refute it at one input. -/
def boxBytesComeBackWrong : ChangeSpec := { name := "boxBytesComeBack", fn := fun _ => fun
  | [d1, d2] => { results := [.lit (.bool false)], args := [d1, d2] }
  | _ => none }
def BoxBytesComeBackWrongFalsely : Prop := boxBytesComeBackRow.holds Try.pinned (OpenSpec.ofChange boxBytesComeBackWrong)

/- THE SECOND FORM. 'bulk': how many values and letters a reading holds, each counted each time it is reached (what is shared counts as often as it is met; a slice's spare places count too). A statement '..UptoSaid' is the law's where the arguments, and the package variables that the reading takes, are together of bulk at most 1048576: NARROWER than '..Said'. Prove '..Said' where nothing that the law and all that it calls make is longer than what came in: it says more and counts as full. Else prove '..UptoSaid'. A law counts once. -/
mutual
def uptoBulk {H : Type} : DataW H → Nat
  | .lit (.string bytes) => bytes.length + 1
  | .lit _ => 1
  | .nil => 1
  | .ptr d => uptoBulk d + 1
  | .slice elems spare => uptoBulkAll elems + uptoBulkAll spare + 1
  | .agg parts => uptoBulkAll parts + 1
  | .iface _ d => uptoBulk d + 1
  | .map entries => uptoBulkEntries entries + 1
  | .held _ => 1
def uptoBulkAll {H : Type} : List (DataW H) → Nat
  | [] => 0
  | d :: r => uptoBulk d + uptoBulkAll r
def uptoBulkEntries {H : Type} : List (Lit × DataW H) → Nat
  | [] => 0
  | x :: r => uptoBulkEntry x + uptoBulkEntries r
def uptoBulkEntry {H : Type} : Lit × DataW H → Nat
  | (.string bytes, d) => bytes.length + uptoBulk d + 1
  | (_, d) => uptoBulk d + 1
 end
def uptoSmall : (H : Type) → List (DataW H) → Bool := fun _ ds => decide (uptoBulkAll ds ≤ 1048576)
def OpenSpec.upto (s : _root_.Go.ChangeSpec) : _root_.Go.OpenSpec := { _root_.Go.OpenSpec.ofChange s with cond := some uptoSmall }

/-- 'headendlaw2.BoxBytesComeBack', WHERE WHAT IT READS IS OF BULK AT MOST 1048576: true; the input reads as it did. -/
def boxBytesComeBackUptoRow : OpenClaim := { program := "ytpmihibdfacomaa", sum := "7fc0f4bd8261624319616ba0c466dc8f3a8079b49bc8ec14732aeb2e491b80f9", func := "headend/headendlaw2.BoxBytesComeBack", spec := "boxBytesComeBack", recurses := true, loops := true, apart := false, narrowed := true }
def BoxBytesComeBackUptoSaid : Prop := boxBytesComeBackUptoRow.holds Try.pinned (OpenSpec.upto boxBytesComeBackSpec)

end Rows
end Go.Proofs.Ytpmihibdfacomaa
