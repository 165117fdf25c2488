/-
  No cell of these rows narrows 'for every input' (looked for: loops, veiled, ifaces, maps, wideKeys, modest, calm, conditions, laid).
  DERIVED. THE GIVEN ROWS OF THIS SEAT. 3 by the template 'for every input the law returns true; each argument reads behind the call as it read before'; 0 by the template 'total and deterministic' (their statements: YtkdmfkpkelnheaaTotals.lean).
  GIVEN WITH THE SEED: the statements are not yours to turn. If you find one false, say at which input.
  Laid BY PROGRAM, IN A SANDBOX (cutbox-rows.mjs): the forced cells as the released guide's own fill.sh prints them over the translation 2f4126a4b448cb46… (all of the seat's roots in one cut). By AI agents, Wed Nov 11 2026. No macro, syntax, notation, axiom, sorry.
-/
import Derived.Test.YtkdmfkpkelnheaaChecked
import GoSem.Claim
import GoSem.ClaimJoined
import GoSem.ClaimMapViews
import Derived.JoinedTies
import Derived.KernelRfl
namespace Go.Proofs.Ytkdmfkpkelnheaa
/- THE CELL 'sum', in the pinned program and in every row, IS THE sha256 OF THE DUMP (.gsa) THAT YtkdmfkpkelnheaaProg.lean LOADS. Nothing in Lean hashes anything: it is a label: what it is worth is what the hold of that sum in a sandbox is worth. -/
noncomputable def Try.pinned : Pinned := { name := "ytkdmfkpkelnheaa", sum := "2f4126a4b448cb46beb7dd810f1ce15172e966cb3381163e1c7d9e9378671421", checked := Try.checked }
namespace Rows
def none {H : Type} : Left H := { results := [], args := [] }

/-- 'headendlaw2.BoxCompactsMatchSpec': WHATEVER THE INPUT: true; the input reads as it did. -/
def boxCompactsMatchSpecSpec : ChangeSpec := { name := "boxCompactsMatchSpec", fn := fun _ => fun
  | [d1, d2, d3] => { results := [.lit (.bool true)], args := [d1, d2, d3] }
  | _ => none }
def boxCompactsMatchSpecRow : OpenClaim := { program := "ytkdmfkpkelnheaa", sum := "2f4126a4b448cb46beb7dd810f1ce15172e966cb3381163e1c7d9e9378671421", func := "headend/headendlaw2.BoxCompactsMatchSpec", spec := "boxCompactsMatchSpec", recurses := true, apart := false }
def BoxCompactsMatchSpecSaid : Prop := boxCompactsMatchSpecRow.holds Try.pinned (OpenSpec.ofChange boxCompactsMatchSpecSpec)

/-- ITS FALSE NEIGHBOUR: 'it returns false'. Refute it at one input. -/
def boxCompactsMatchSpecWrong : ChangeSpec := { name := "boxCompactsMatchSpec", fn := fun _ => fun
  | [d1, d2, d3] => { results := [.lit (.bool false)], args := [d1, d2, d3] }
  | _ => none }
def BoxCompactsMatchSpecWrongFalsely : Prop := boxCompactsMatchSpecRow.holds Try.pinned (OpenSpec.ofChange boxCompactsMatchSpecWrong)

/-- 'headendlaw2.BoxTablesMatchSpec': WHATEVER THE INPUT: true; the input reads as it did. -/
def boxTablesMatchSpecSpec : ChangeSpec := { name := "boxTablesMatchSpec", fn := fun _ => fun
  | [d] => { results := [.lit (.bool true)], args := [d] }
  | _ => none }
def boxTablesMatchSpecRow : OpenClaim := { program := "ytkdmfkpkelnheaa", sum := "2f4126a4b448cb46beb7dd810f1ce15172e966cb3381163e1c7d9e9378671421", func := "headend/headendlaw2.BoxTablesMatchSpec", spec := "boxTablesMatchSpec", recurses := true, apart := false }
def BoxTablesMatchSpecSaid : Prop := boxTablesMatchSpecRow.holds Try.pinned (OpenSpec.ofChange boxTablesMatchSpecSpec)

/-- ITS FALSE NEIGHBOUR: 'it returns false'. Refute it at one input. -/
def boxTablesMatchSpecWrong : ChangeSpec := { name := "boxTablesMatchSpec", fn := fun _ => fun
  | [d] => { results := [.lit (.bool false)], args := [d] }
  | _ => none }
def BoxTablesMatchSpecWrongFalsely : Prop := boxTablesMatchSpecRow.holds Try.pinned (OpenSpec.ofChange boxTablesMatchSpecWrong)

/-- 'headendlaw2.BoxCompactsComeBack': WHATEVER THE INPUT: true; the input reads as it did. -/
def boxCompactsComeBackSpec : ChangeSpec := { name := "boxCompactsComeBack", fn := fun _ => fun
  | [d1, d2, d3, d4] => { results := [.lit (.bool true)], args := [d1, d2, d3, d4] }
  | _ => none }
def boxCompactsComeBackRow : OpenClaim := { program := "ytkdmfkpkelnheaa", sum := "2f4126a4b448cb46beb7dd810f1ce15172e966cb3381163e1c7d9e9378671421", func := "headend/headendlaw2.BoxCompactsComeBack", spec := "boxCompactsComeBack", recurses := true, apart := false }
def BoxCompactsComeBackSaid : Prop := boxCompactsComeBackRow.holds Try.pinned (OpenSpec.ofChange boxCompactsComeBackSpec)

/-- ITS FALSE NEIGHBOUR: 'it returns false'. Refute it at one input. -/
def boxCompactsComeBackWrong : ChangeSpec := { name := "boxCompactsComeBack", fn := fun _ => fun
  | [d1, d2, d3, d4] => { results := [.lit (.bool false)], args := [d1, d2, d3, d4] }
  | _ => none }
def BoxCompactsComeBackWrongFalsely : Prop := boxCompactsComeBackRow.holds Try.pinned (OpenSpec.ofChange boxCompactsComeBackWrong)

/- THE SECOND FORM. 'bulk': how many values and letters a reading holds, each counted each time it is reached (what is shared counts as often as it is met; a slice's spare places count too). A statement '..UptoSaid' is the law's where the arguments, and the package variables that the reading takes, are together of bulk at most 1048576: NARROWER than '..Said'. Prove '..Said' where nothing that the law and all that it calls make is longer than what came in: it says more and counts as full. Else prove '..UptoSaid'. A law counts once. -/
mutual
def uptoBulk {H : Type} : DataW H → Nat
  | .lit (.string bytes) => bytes.length + 1
  | .lit _ => 1
  | .nil => 1
  | .ptr d => uptoBulk d + 1
  | .slice elems spare => uptoBulkAll elems + uptoBulkAll spare + 1
  | .agg parts => uptoBulkAll parts + 1
  | .iface _ d => uptoBulk d + 1
  | .map entries => uptoBulkEntries entries + 1
  | .held _ => 1
def uptoBulkAll {H : Type} : List (DataW H) → Nat
  | [] => 0
  | d :: r => uptoBulk d + uptoBulkAll r
def uptoBulkEntries {H : Type} : List (Lit × DataW H) → Nat
  | [] => 0
  | x :: r => uptoBulkEntry x + uptoBulkEntries r
def uptoBulkEntry {H : Type} : Lit × DataW H → Nat
  | (.string bytes, d) => bytes.length + uptoBulk d + 1
  | (_, d) => uptoBulk d + 1
 end
def uptoSmall : (H : Type) → List (DataW H) → Bool := fun _ ds => decide (uptoBulkAll ds ≤ 1048576)
def OpenSpec.upto (s : _root_.Go.ChangeSpec) : _root_.Go.OpenSpec := { _root_.Go.OpenSpec.ofChange s with cond := some uptoSmall }

/-- 'headendlaw2.BoxCompactsMatchSpec', WHERE WHAT IT READS IS OF BULK AT MOST 1048576: true; the input reads as it did. -/
def boxCompactsMatchSpecUptoRow : OpenClaim := { program := "ytkdmfkpkelnheaa", sum := "2f4126a4b448cb46beb7dd810f1ce15172e966cb3381163e1c7d9e9378671421", func := "headend/headendlaw2.BoxCompactsMatchSpec", spec := "boxCompactsMatchSpec", recurses := true, apart := false, narrowed := true }
def BoxCompactsMatchSpecUptoSaid : Prop := boxCompactsMatchSpecUptoRow.holds Try.pinned (OpenSpec.upto boxCompactsMatchSpecSpec)

/-- 'headendlaw2.BoxTablesMatchSpec', WHERE WHAT IT READS IS OF BULK AT MOST 1048576: true; the input reads as it did. -/
def boxTablesMatchSpecUptoRow : OpenClaim := { program := "ytkdmfkpkelnheaa", sum := "2f4126a4b448cb46beb7dd810f1ce15172e966cb3381163e1c7d9e9378671421", func := "headend/headendlaw2.BoxTablesMatchSpec", spec := "boxTablesMatchSpec", recurses := true, apart := false, narrowed := true }
def BoxTablesMatchSpecUptoSaid : Prop := boxTablesMatchSpecUptoRow.holds Try.pinned (OpenSpec.upto boxTablesMatchSpecSpec)

/-- 'headendlaw2.BoxCompactsComeBack', WHERE WHAT IT READS IS OF BULK AT MOST 1048576: true; the input reads as it did. -/
def boxCompactsComeBackUptoRow : OpenClaim := { program := "ytkdmfkpkelnheaa", sum := "2f4126a4b448cb46beb7dd810f1ce15172e966cb3381163e1c7d9e9378671421", func := "headend/headendlaw2.BoxCompactsComeBack", spec := "boxCompactsComeBack", recurses := true, apart := false, narrowed := true }
def BoxCompactsComeBackUptoSaid : Prop := boxCompactsComeBackUptoRow.holds Try.pinned (OpenSpec.upto boxCompactsComeBackSpec)

end Rows
end Go.Proofs.Ytkdmfkpkelnheaa
