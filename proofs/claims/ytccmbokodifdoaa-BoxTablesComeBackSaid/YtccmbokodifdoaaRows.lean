/-
  NARROWER THAN 'FOR EVERY INPUT', by the rows' own cells (each row's printed sentence says how): BoxBytesComeBack: loops.
  DERIVED. THE GIVEN ROWS OF THIS SEAT. 7 by the template 'for every input the law returns true; each argument reads behind the call as it read before'; 0 by the template 'total and deterministic' (their statements: YtccmbokodifdoaaTotals.lean).
  GIVEN WITH THE SEED: the statements are not yours to turn. If you find one false, say at which input.
  Laid BY PROGRAM, IN A SANDBOX (cutbox-rows.mjs): the forced cells as the released guide's own fill.sh prints them over the translation ea60d685c0d8351a… (all of the seat's roots in one cut). By AI agents, Wed Nov 11 2026. No macro, syntax, notation, axiom, sorry.
-/
import Derived.Test.YtccmbokodifdoaaChecked
import GoSem.Claim
import GoSem.ClaimJoined
import GoSem.ClaimMapViews
import Derived.JoinedTies
import Derived.KernelRfl
namespace Go.Proofs.Ytccmbokodifdoaa
/- THE CELL 'sum', in the pinned program and in every row, IS THE sha256 OF THE DUMP (.gsa) THAT YtccmbokodifdoaaProg.lean LOADS. Nothing in Lean hashes anything: it is a label: what it is worth is what the hold of that sum in a sandbox is worth. -/
noncomputable def Try.pinned : Pinned := { name := "ytccmbokodifdoaa", sum := "ea60d685c0d8351ab953d6e20db287b7c94bb24701f359549868cb5e24a51022", checked := Try.checked }
namespace Rows
def none {H : Type} : Left H := { results := [], args := [] }

/-- 'headendlaw2.BoxFragmentsReadMatchSpec': WHATEVER THE INPUT: true; the input reads as it did. -/
def boxFragmentsReadMatchSpecSpec : ChangeSpec := { name := "boxFragmentsReadMatchSpec", fn := fun _ => fun
  | [d] => { results := [.lit (.bool true)], args := [d] }
  | _ => none }
def boxFragmentsReadMatchSpecRow : OpenClaim := { program := "ytccmbokodifdoaa", sum := "ea60d685c0d8351ab953d6e20db287b7c94bb24701f359549868cb5e24a51022", func := "headend/headendlaw2.BoxFragmentsReadMatchSpec", spec := "boxFragmentsReadMatchSpec", recurses := true, apart := false }
def BoxFragmentsReadMatchSpecSaid : Prop := boxFragmentsReadMatchSpecRow.holds Try.pinned (OpenSpec.ofChange boxFragmentsReadMatchSpecSpec)

/-- ITS FALSE NEIGHBOUR: 'it returns false'. Refute it at one input. -/
def boxFragmentsReadMatchSpecWrong : ChangeSpec := { name := "boxFragmentsReadMatchSpec", fn := fun _ => fun
  | [d] => { results := [.lit (.bool false)], args := [d] }
  | _ => none }
def BoxFragmentsReadMatchSpecWrongFalsely : Prop := boxFragmentsReadMatchSpecRow.holds Try.pinned (OpenSpec.ofChange boxFragmentsReadMatchSpecWrong)

/-- 'headendlaw2.BoxCompactsMatchSpec': WHATEVER THE INPUT: true; the input reads as it did. -/
def boxCompactsMatchSpecSpec : ChangeSpec := { name := "boxCompactsMatchSpec", fn := fun _ => fun
  | [d1, d2, d3] => { results := [.lit (.bool true)], args := [d1, d2, d3] }
  | _ => none }
def boxCompactsMatchSpecRow : OpenClaim := { program := "ytccmbokodifdoaa", sum := "ea60d685c0d8351ab953d6e20db287b7c94bb24701f359549868cb5e24a51022", func := "headend/headendlaw2.BoxCompactsMatchSpec", spec := "boxCompactsMatchSpec", recurses := true, apart := false }
def BoxCompactsMatchSpecSaid : Prop := boxCompactsMatchSpecRow.holds Try.pinned (OpenSpec.ofChange boxCompactsMatchSpecSpec)

/-- ITS FALSE NEIGHBOUR: 'it returns false'. Refute it at one input. -/
def boxCompactsMatchSpecWrong : ChangeSpec := { name := "boxCompactsMatchSpec", fn := fun _ => fun
  | [d1, d2, d3] => { results := [.lit (.bool false)], args := [d1, d2, d3] }
  | _ => none }
def BoxCompactsMatchSpecWrongFalsely : Prop := boxCompactsMatchSpecRow.holds Try.pinned (OpenSpec.ofChange boxCompactsMatchSpecWrong)

/-- 'headendlaw2.BoxBytesComeBack': WHATEVER THE INPUT: true; the input reads as it did. -/
def boxBytesComeBackSpec : ChangeSpec := { name := "boxBytesComeBack", fn := fun _ => fun
  | [d1, d2] => { results := [.lit (.bool true)], args := [d1, d2] }
  | _ => none }
def boxBytesComeBackRow : OpenClaim := { program := "ytccmbokodifdoaa", sum := "ea60d685c0d8351ab953d6e20db287b7c94bb24701f359549868cb5e24a51022", func := "headend/headendlaw2.BoxBytesComeBack", spec := "boxBytesComeBack", recurses := true, loops := true, apart := false }
def BoxBytesComeBackSaid : Prop := boxBytesComeBackRow.holds Try.pinned (OpenSpec.ofChange boxBytesComeBackSpec)

/-- ITS FALSE NEIGHBOUR: 'it returns false'. Refute it at one input. -/
def boxBytesComeBackWrong : ChangeSpec := { name := "boxBytesComeBack", fn := fun _ => fun
  | [d1, d2] => { results := [.lit (.bool false)], args := [d1, d2] }
  | _ => none }
def BoxBytesComeBackWrongFalsely : Prop := boxBytesComeBackRow.holds Try.pinned (OpenSpec.ofChange boxBytesComeBackWrong)

/-- 'headendlaw2.BoxTablesMatchSpec': WHATEVER THE INPUT: true; the input reads as it did. -/
def boxTablesMatchSpecSpec : ChangeSpec := { name := "boxTablesMatchSpec", fn := fun _ => fun
  | [d] => { results := [.lit (.bool true)], args := [d] }
  | _ => none }
def boxTablesMatchSpecRow : OpenClaim := { program := "ytccmbokodifdoaa", sum := "ea60d685c0d8351ab953d6e20db287b7c94bb24701f359549868cb5e24a51022", func := "headend/headendlaw2.BoxTablesMatchSpec", spec := "boxTablesMatchSpec", recurses := true, apart := false }
def BoxTablesMatchSpecSaid : Prop := boxTablesMatchSpecRow.holds Try.pinned (OpenSpec.ofChange boxTablesMatchSpecSpec)

/-- ITS FALSE NEIGHBOUR: 'it returns false'. Refute it at one input. -/
def boxTablesMatchSpecWrong : ChangeSpec := { name := "boxTablesMatchSpec", fn := fun _ => fun
  | [d] => { results := [.lit (.bool false)], args := [d] }
  | _ => none }
def BoxTablesMatchSpecWrongFalsely : Prop := boxTablesMatchSpecRow.holds Try.pinned (OpenSpec.ofChange boxTablesMatchSpecWrong)

/-- 'headendlaw2.BoxTablesReadMatchSpec': WHATEVER THE INPUT: true; the input reads as it did. -/
def boxTablesReadMatchSpecSpec : ChangeSpec := { name := "boxTablesReadMatchSpec", fn := fun _ => fun
  | [d] => { results := [.lit (.bool true)], args := [d] }
  | _ => none }
def boxTablesReadMatchSpecRow : OpenClaim := { program := "ytccmbokodifdoaa", sum := "ea60d685c0d8351ab953d6e20db287b7c94bb24701f359549868cb5e24a51022", func := "headend/headendlaw2.BoxTablesReadMatchSpec", spec := "boxTablesReadMatchSpec", recurses := true, apart := false }
def BoxTablesReadMatchSpecSaid : Prop := boxTablesReadMatchSpecRow.holds Try.pinned (OpenSpec.ofChange boxTablesReadMatchSpecSpec)

/-- ITS FALSE NEIGHBOUR: 'it returns false'. Refute it at one input. -/
def boxTablesReadMatchSpecWrong : ChangeSpec := { name := "boxTablesReadMatchSpec", fn := fun _ => fun
  | [d] => { results := [.lit (.bool false)], args := [d] }
  | _ => none }
def BoxTablesReadMatchSpecWrongFalsely : Prop := boxTablesReadMatchSpecRow.holds Try.pinned (OpenSpec.ofChange boxTablesReadMatchSpecWrong)

/-- 'headendlaw2.BoxTablesComeBack': WHATEVER THE INPUT: true; the input reads as it did. -/
def boxTablesComeBackSpec : ChangeSpec := { name := "boxTablesComeBack", fn := fun _ => fun
  | [d1, d2] => { results := [.lit (.bool true)], args := [d1, d2] }
  | _ => none }
def boxTablesComeBackRow : OpenClaim := { program := "ytccmbokodifdoaa", sum := "ea60d685c0d8351ab953d6e20db287b7c94bb24701f359549868cb5e24a51022", func := "headend/headendlaw2.BoxTablesComeBack", spec := "boxTablesComeBack", recurses := true, apart := false }
def BoxTablesComeBackSaid : Prop := boxTablesComeBackRow.holds Try.pinned (OpenSpec.ofChange boxTablesComeBackSpec)

/-- ITS FALSE NEIGHBOUR: 'it returns false'. Refute it at one input. -/
def boxTablesComeBackWrong : ChangeSpec := { name := "boxTablesComeBack", fn := fun _ => fun
  | [d1, d2] => { results := [.lit (.bool false)], args := [d1, d2] }
  | _ => none }
def BoxTablesComeBackWrongFalsely : Prop := boxTablesComeBackRow.holds Try.pinned (OpenSpec.ofChange boxTablesComeBackWrong)

/-- 'headendlaw2.BoxCompactsComeBack': WHATEVER THE INPUT: true; the input reads as it did. -/
def boxCompactsComeBackSpec : ChangeSpec := { name := "boxCompactsComeBack", fn := fun _ => fun
  | [d1, d2, d3, d4] => { results := [.lit (.bool true)], args := [d1, d2, d3, d4] }
  | _ => none }
def boxCompactsComeBackRow : OpenClaim := { program := "ytccmbokodifdoaa", sum := "ea60d685c0d8351ab953d6e20db287b7c94bb24701f359549868cb5e24a51022", func := "headend/headendlaw2.BoxCompactsComeBack", spec := "boxCompactsComeBack", recurses := true, apart := false }
def BoxCompactsComeBackSaid : Prop := boxCompactsComeBackRow.holds Try.pinned (OpenSpec.ofChange boxCompactsComeBackSpec)

/-- ITS FALSE NEIGHBOUR: 'it returns false'. Refute it at one input. -/
def boxCompactsComeBackWrong : ChangeSpec := { name := "boxCompactsComeBack", fn := fun _ => fun
  | [d1, d2, d3, d4] => { results := [.lit (.bool false)], args := [d1, d2, d3, d4] }
  | _ => none }
def BoxCompactsComeBackWrongFalsely : Prop := boxCompactsComeBackRow.holds Try.pinned (OpenSpec.ofChange boxCompactsComeBackWrong)

/- THE SECOND FORM. 'bulk': how many values and letters a reading holds, each counted each time it is reached (what is shared counts as often as it is met; a slice's spare places count too). A statement '..UptoSaid' is the law's where the arguments, and the package variables that the reading takes, are together of bulk at most 1048576: NARROWER than '..Said'. Prove '..Said' where nothing that the law and all that it calls make is longer than what came in: it says more and counts as full. Else prove '..UptoSaid'. A law counts once. -/
mutual
def uptoBulk {H : Type} : DataW H → Nat
  | .lit (.string bytes) => bytes.length + 1
  | .lit _ => 1
  | .nil => 1
  | .ptr d => uptoBulk d + 1
  | .slice elems spare => uptoBulkAll elems + uptoBulkAll spare + 1
  | .agg parts => uptoBulkAll parts + 1
  | .iface _ d => uptoBulk d + 1
  | .map entries => uptoBulkEntries entries + 1
  | .held _ => 1
def uptoBulkAll {H : Type} : List (DataW H) → Nat
  | [] => 0
  | d :: r => uptoBulk d + uptoBulkAll r
def uptoBulkEntries {H : Type} : List (Lit × DataW H) → Nat
  | [] => 0
  | x :: r => uptoBulkEntry x + uptoBulkEntries r
def uptoBulkEntry {H : Type} : Lit × DataW H → Nat
  | (.string bytes, d) => bytes.length + uptoBulk d + 1
  | (_, d) => uptoBulk d + 1
 end
def uptoSmall : (H : Type) → List (DataW H) → Bool := fun _ ds => decide (uptoBulkAll ds ≤ 1048576)
def OpenSpec.upto (s : _root_.Go.ChangeSpec) : _root_.Go.OpenSpec := { _root_.Go.OpenSpec.ofChange s with cond := some uptoSmall }

/-- 'headendlaw2.BoxFragmentsReadMatchSpec', WHERE WHAT IT READS IS OF BULK AT MOST 1048576: true; the input reads as it did. -/
def boxFragmentsReadMatchSpecUptoRow : OpenClaim := { program := "ytccmbokodifdoaa", sum := "ea60d685c0d8351ab953d6e20db287b7c94bb24701f359549868cb5e24a51022", func := "headend/headendlaw2.BoxFragmentsReadMatchSpec", spec := "boxFragmentsReadMatchSpec", recurses := true, apart := false, narrowed := true }
def BoxFragmentsReadMatchSpecUptoSaid : Prop := boxFragmentsReadMatchSpecUptoRow.holds Try.pinned (OpenSpec.upto boxFragmentsReadMatchSpecSpec)

/-- 'headendlaw2.BoxCompactsMatchSpec', WHERE WHAT IT READS IS OF BULK AT MOST 1048576: true; the input reads as it did. -/
def boxCompactsMatchSpecUptoRow : OpenClaim := { program := "ytccmbokodifdoaa", sum := "ea60d685c0d8351ab953d6e20db287b7c94bb24701f359549868cb5e24a51022", func := "headend/headendlaw2.BoxCompactsMatchSpec", spec := "boxCompactsMatchSpec", recurses := true, apart := false, narrowed := true }
def BoxCompactsMatchSpecUptoSaid : Prop := boxCompactsMatchSpecUptoRow.holds Try.pinned (OpenSpec.upto boxCompactsMatchSpecSpec)

/-- 'headendlaw2.BoxBytesComeBack', WHERE WHAT IT READS IS OF BULK AT MOST 1048576: true; the input reads as it did. -/
def boxBytesComeBackUptoRow : OpenClaim := { program := "ytccmbokodifdoaa", sum := "ea60d685c0d8351ab953d6e20db287b7c94bb24701f359549868cb5e24a51022", func := "headend/headendlaw2.BoxBytesComeBack", spec := "boxBytesComeBack", recurses := true, loops := true, apart := false, narrowed := true }
def BoxBytesComeBackUptoSaid : Prop := boxBytesComeBackUptoRow.holds Try.pinned (OpenSpec.upto boxBytesComeBackSpec)

/-- 'headendlaw2.BoxTablesMatchSpec', WHERE WHAT IT READS IS OF BULK AT MOST 1048576: true; the input reads as it did. -/
def boxTablesMatchSpecUptoRow : OpenClaim := { program := "ytccmbokodifdoaa", sum := "ea60d685c0d8351ab953d6e20db287b7c94bb24701f359549868cb5e24a51022", func := "headend/headendlaw2.BoxTablesMatchSpec", spec := "boxTablesMatchSpec", recurses := true, apart := false, narrowed := true }
def BoxTablesMatchSpecUptoSaid : Prop := boxTablesMatchSpecUptoRow.holds Try.pinned (OpenSpec.upto boxTablesMatchSpecSpec)

/-- 'headendlaw2.BoxTablesReadMatchSpec', WHERE WHAT IT READS IS OF BULK AT MOST 1048576: true; the input reads as it did. -/
def boxTablesReadMatchSpecUptoRow : OpenClaim := { program := "ytccmbokodifdoaa", sum := "ea60d685c0d8351ab953d6e20db287b7c94bb24701f359549868cb5e24a51022", func := "headend/headendlaw2.BoxTablesReadMatchSpec", spec := "boxTablesReadMatchSpec", recurses := true, apart := false, narrowed := true }
def BoxTablesReadMatchSpecUptoSaid : Prop := boxTablesReadMatchSpecUptoRow.holds Try.pinned (OpenSpec.upto boxTablesReadMatchSpecSpec)

/-- 'headendlaw2.BoxTablesComeBack', WHERE WHAT IT READS IS OF BULK AT MOST 1048576: true; the input reads as it did. -/
def boxTablesComeBackUptoRow : OpenClaim := { program := "ytccmbokodifdoaa", sum := "ea60d685c0d8351ab953d6e20db287b7c94bb24701f359549868cb5e24a51022", func := "headend/headendlaw2.BoxTablesComeBack", spec := "boxTablesComeBack", recurses := true, apart := false, narrowed := true }
def BoxTablesComeBackUptoSaid : Prop := boxTablesComeBackUptoRow.holds Try.pinned (OpenSpec.upto boxTablesComeBackSpec)

/-- 'headendlaw2.BoxCompactsComeBack', WHERE WHAT IT READS IS OF BULK AT MOST 1048576: true; the input reads as it did. -/
def boxCompactsComeBackUptoRow : OpenClaim := { program := "ytccmbokodifdoaa", sum := "ea60d685c0d8351ab953d6e20db287b7c94bb24701f359549868cb5e24a51022", func := "headend/headendlaw2.BoxCompactsComeBack", spec := "boxCompactsComeBack", recurses := true, apart := false, narrowed := true }
def BoxCompactsComeBackUptoSaid : Prop := boxCompactsComeBackUptoRow.holds Try.pinned (OpenSpec.upto boxCompactsComeBackSpec)

end Rows
end Go.Proofs.Ytccmbokodifdoaa
