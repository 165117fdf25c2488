/-
  No cell of these rows narrows 'for every input' (looked for: loops, veiled, ifaces, maps, wideKeys, modest, calm, conditions, laid).
  DERIVED. THE GIVEN ROWS OF THIS SEAT. 6 by the template 'for every input the law returns true; each argument reads behind the call as it read before'; 0 by the template 'total and deterministic' (their statements: YtgnmnhlhiiehfaaTotals.lean).
  GIVEN WITH THE SEED: the statements are not yours to turn. If you find one false, say at which input.
  Laid BY PROGRAM, IN A SANDBOX (cutbox-rows.mjs): the forced cells as the released guide's own fill.sh prints them over the translation 7a31e7ad494a2033… (all of the seat's roots in one cut). By AI agents, Wed Nov 11 2026. No macro, syntax, notation, axiom, sorry.
-/
import Derived.Test.YtgnmnhlhiiehfaaChecked
import GoSem.Claim
import GoSem.ClaimJoined
import GoSem.ClaimMapViews
import Derived.JoinedTies
import Derived.KernelRfl
namespace Go.Proofs.Ytgnmnhlhiiehfaa
/- THE CELL 'sum', in the pinned program and in every row, IS THE sha256 OF THE DUMP (.gsa) THAT YtgnmnhlhiiehfaaProg.lean LOADS. Nothing in Lean hashes anything: it is a label: what it is worth is what the hold of that sum in a sandbox is worth. -/
noncomputable def Try.pinned : Pinned := { name := "ytgnmnhlhiiehfaa", sum := "7a31e7ad494a20335cd4ffb71c14f918ff2521eae24f5abca266036c3cb16d5c", checked := Try.checked }
namespace Rows
def none {H : Type} : Left H := { results := [], args := [] }

/-- 'headendlaw2.BoxParsesMatchSpec': WHATEVER THE INPUT: true; the input reads as it did. -/
def boxParsesMatchSpecSpec : ChangeSpec := { name := "boxParsesMatchSpec", fn := fun _ => fun
  | [d] => { results := [.lit (.bool true)], args := [d] }
  | _ => none }
def boxParsesMatchSpecRow : OpenClaim := { program := "ytgnmnhlhiiehfaa", sum := "7a31e7ad494a20335cd4ffb71c14f918ff2521eae24f5abca266036c3cb16d5c", func := "headend/headendlaw2.BoxParsesMatchSpec", spec := "boxParsesMatchSpec", recurses := true, apart := false }
def BoxParsesMatchSpecSaid : Prop := boxParsesMatchSpecRow.holds Try.pinned (OpenSpec.ofChange boxParsesMatchSpecSpec)

/-- ITS FALSE NEIGHBOUR: 'it returns false'. Refute it at one input. -/
def boxParsesMatchSpecWrong : ChangeSpec := { name := "boxParsesMatchSpec", fn := fun _ => fun
  | [d] => { results := [.lit (.bool false)], args := [d] }
  | _ => none }
def BoxParsesMatchSpecWrongFalsely : Prop := boxParsesMatchSpecRow.holds Try.pinned (OpenSpec.ofChange boxParsesMatchSpecWrong)

/-- 'headendlaw2.BoxFragmentsJoin': WHATEVER THE INPUT: true; the input reads as it did. -/
def boxFragmentsJoinSpec : ChangeSpec := { name := "boxFragmentsJoin", fn := fun _ => fun
  | [d1, d2] => { results := [.lit (.bool true)], args := [d1, d2] }
  | _ => none }
def boxFragmentsJoinRow : OpenClaim := { program := "ytgnmnhlhiiehfaa", sum := "7a31e7ad494a20335cd4ffb71c14f918ff2521eae24f5abca266036c3cb16d5c", func := "headend/headendlaw2.BoxFragmentsJoin", spec := "boxFragmentsJoin", recurses := true, apart := false }
def BoxFragmentsJoinSaid : Prop := boxFragmentsJoinRow.holds Try.pinned (OpenSpec.ofChange boxFragmentsJoinSpec)

/-- ITS FALSE NEIGHBOUR: 'it returns false'. Refute it at one input. -/
def boxFragmentsJoinWrong : ChangeSpec := { name := "boxFragmentsJoin", fn := fun _ => fun
  | [d1, d2] => { results := [.lit (.bool false)], args := [d1, d2] }
  | _ => none }
def BoxFragmentsJoinWrongFalsely : Prop := boxFragmentsJoinRow.holds Try.pinned (OpenSpec.ofChange boxFragmentsJoinWrong)

/-- 'headendlaw2.BoxCompactsMatchSpec': WHATEVER THE INPUT: true; the input reads as it did. -/
def boxCompactsMatchSpecSpec : ChangeSpec := { name := "boxCompactsMatchSpec", fn := fun _ => fun
  | [d1, d2, d3] => { results := [.lit (.bool true)], args := [d1, d2, d3] }
  | _ => none }
def boxCompactsMatchSpecRow : OpenClaim := { program := "ytgnmnhlhiiehfaa", sum := "7a31e7ad494a20335cd4ffb71c14f918ff2521eae24f5abca266036c3cb16d5c", func := "headend/headendlaw2.BoxCompactsMatchSpec", spec := "boxCompactsMatchSpec", recurses := true, apart := false }
def BoxCompactsMatchSpecSaid : Prop := boxCompactsMatchSpecRow.holds Try.pinned (OpenSpec.ofChange boxCompactsMatchSpecSpec)

/-- ITS FALSE NEIGHBOUR: 'it returns false'. Refute it at one input. -/
def boxCompactsMatchSpecWrong : ChangeSpec := { name := "boxCompactsMatchSpec", fn := fun _ => fun
  | [d1, d2, d3] => { results := [.lit (.bool false)], args := [d1, d2, d3] }
  | _ => none }
def BoxCompactsMatchSpecWrongFalsely : Prop := boxCompactsMatchSpecRow.holds Try.pinned (OpenSpec.ofChange boxCompactsMatchSpecWrong)

/-- 'headendlaw2.BoxFragmentsReadMatchSpec': WHATEVER THE INPUT: true; the input reads as it did. -/
def boxFragmentsReadMatchSpecSpec : ChangeSpec := { name := "boxFragmentsReadMatchSpec", fn := fun _ => fun
  | [d] => { results := [.lit (.bool true)], args := [d] }
  | _ => none }
def boxFragmentsReadMatchSpecRow : OpenClaim := { program := "ytgnmnhlhiiehfaa", sum := "7a31e7ad494a20335cd4ffb71c14f918ff2521eae24f5abca266036c3cb16d5c", func := "headend/headendlaw2.BoxFragmentsReadMatchSpec", spec := "boxFragmentsReadMatchSpec", recurses := true, apart := false }
def BoxFragmentsReadMatchSpecSaid : Prop := boxFragmentsReadMatchSpecRow.holds Try.pinned (OpenSpec.ofChange boxFragmentsReadMatchSpecSpec)

/-- ITS FALSE NEIGHBOUR: 'it returns false'. Refute it at one input. -/
def boxFragmentsReadMatchSpecWrong : ChangeSpec := { name := "boxFragmentsReadMatchSpec", fn := fun _ => fun
  | [d] => { results := [.lit (.bool false)], args := [d] }
  | _ => none }
def BoxFragmentsReadMatchSpecWrongFalsely : Prop := boxFragmentsReadMatchSpecRow.holds Try.pinned (OpenSpec.ofChange boxFragmentsReadMatchSpecWrong)

/-- 'headendlaw2.BoxFragmentsMatchSpec': WHATEVER THE INPUT: true; the input reads as it did. -/
def boxFragmentsMatchSpecSpec : ChangeSpec := { name := "boxFragmentsMatchSpec", fn := fun _ => fun
  | [d1, d2] => { results := [.lit (.bool true)], args := [d1, d2] }
  | _ => none }
def boxFragmentsMatchSpecRow : OpenClaim := { program := "ytgnmnhlhiiehfaa", sum := "7a31e7ad494a20335cd4ffb71c14f918ff2521eae24f5abca266036c3cb16d5c", func := "headend/headendlaw2.BoxFragmentsMatchSpec", spec := "boxFragmentsMatchSpec", recurses := true, apart := false }
def BoxFragmentsMatchSpecSaid : Prop := boxFragmentsMatchSpecRow.holds Try.pinned (OpenSpec.ofChange boxFragmentsMatchSpecSpec)

/-- ITS FALSE NEIGHBOUR: 'it returns false'. Refute it at one input. -/
def boxFragmentsMatchSpecWrong : ChangeSpec := { name := "boxFragmentsMatchSpec", fn := fun _ => fun
  | [d1, d2] => { results := [.lit (.bool false)], args := [d1, d2] }
  | _ => none }
def BoxFragmentsMatchSpecWrongFalsely : Prop := boxFragmentsMatchSpecRow.holds Try.pinned (OpenSpec.ofChange boxFragmentsMatchSpecWrong)

/-- 'headendlaw2.BoxFragmentsComeBack': WHATEVER THE INPUT: true; the input reads as it did. -/
def boxFragmentsComeBackSpec : ChangeSpec := { name := "boxFragmentsComeBack", fn := fun _ => fun
  | [d1, d2] => { results := [.lit (.bool true)], args := [d1, d2] }
  | _ => none }
def boxFragmentsComeBackRow : OpenClaim := { program := "ytgnmnhlhiiehfaa", sum := "7a31e7ad494a20335cd4ffb71c14f918ff2521eae24f5abca266036c3cb16d5c", func := "headend/headendlaw2.BoxFragmentsComeBack", spec := "boxFragmentsComeBack", recurses := true, apart := false }
def BoxFragmentsComeBackSaid : Prop := boxFragmentsComeBackRow.holds Try.pinned (OpenSpec.ofChange boxFragmentsComeBackSpec)

/-- ITS FALSE NEIGHBOUR: 'it returns false'. Refute it at one input. -/
def boxFragmentsComeBackWrong : ChangeSpec := { name := "boxFragmentsComeBack", fn := fun _ => fun
  | [d1, d2] => { results := [.lit (.bool false)], args := [d1, d2] }
  | _ => none }
def BoxFragmentsComeBackWrongFalsely : Prop := boxFragmentsComeBackRow.holds Try.pinned (OpenSpec.ofChange boxFragmentsComeBackWrong)

/- THE SECOND FORM. 'bulk': how many values and letters a reading holds, each counted each time it is reached (what is shared counts as often as it is met; a slice's spare places count too). A statement '..UptoSaid' is the law's where the arguments, and the package variables that the reading takes, are together of bulk at most 1048576: NARROWER than '..Said'. Prove '..Said' where nothing that the law and all that it calls make is longer than what came in: it says more and counts as full. Else prove '..UptoSaid'. A law counts once. -/
mutual
def uptoBulk {H : Type} : DataW H → Nat
  | .lit (.string bytes) => bytes.length + 1
  | .lit _ => 1
  | .nil => 1
  | .ptr d => uptoBulk d + 1
  | .slice elems spare => uptoBulkAll elems + uptoBulkAll spare + 1
  | .agg parts => uptoBulkAll parts + 1
  | .iface _ d => uptoBulk d + 1
  | .map entries => uptoBulkEntries entries + 1
  | .held _ => 1
def uptoBulkAll {H : Type} : List (DataW H) → Nat
  | [] => 0
  | d :: r => uptoBulk d + uptoBulkAll r
def uptoBulkEntries {H : Type} : List (Lit × DataW H) → Nat
  | [] => 0
  | x :: r => uptoBulkEntry x + uptoBulkEntries r
def uptoBulkEntry {H : Type} : Lit × DataW H → Nat
  | (.string bytes, d) => bytes.length + uptoBulk d + 1
  | (_, d) => uptoBulk d + 1
 end
def uptoSmall : (H : Type) → List (DataW H) → Bool := fun _ ds => decide (uptoBulkAll ds ≤ 1048576)
def OpenSpec.upto (s : _root_.Go.ChangeSpec) : _root_.Go.OpenSpec := { _root_.Go.OpenSpec.ofChange s with cond := some uptoSmall }

/-- 'headendlaw2.BoxParsesMatchSpec', WHERE WHAT IT READS IS OF BULK AT MOST 1048576: true; the input reads as it did. -/
def boxParsesMatchSpecUptoRow : OpenClaim := { program := "ytgnmnhlhiiehfaa", sum := "7a31e7ad494a20335cd4ffb71c14f918ff2521eae24f5abca266036c3cb16d5c", func := "headend/headendlaw2.BoxParsesMatchSpec", spec := "boxParsesMatchSpec", recurses := true, apart := false, narrowed := true }
def BoxParsesMatchSpecUptoSaid : Prop := boxParsesMatchSpecUptoRow.holds Try.pinned (OpenSpec.upto boxParsesMatchSpecSpec)

/-- 'headendlaw2.BoxFragmentsJoin', WHERE WHAT IT READS IS OF BULK AT MOST 1048576: true; the input reads as it did. -/
def boxFragmentsJoinUptoRow : OpenClaim := { program := "ytgnmnhlhiiehfaa", sum := "7a31e7ad494a20335cd4ffb71c14f918ff2521eae24f5abca266036c3cb16d5c", func := "headend/headendlaw2.BoxFragmentsJoin", spec := "boxFragmentsJoin", recurses := true, apart := false, narrowed := true }
def BoxFragmentsJoinUptoSaid : Prop := boxFragmentsJoinUptoRow.holds Try.pinned (OpenSpec.upto boxFragmentsJoinSpec)

/-- 'headendlaw2.BoxCompactsMatchSpec', WHERE WHAT IT READS IS OF BULK AT MOST 1048576: true; the input reads as it did. -/
def boxCompactsMatchSpecUptoRow : OpenClaim := { program := "ytgnmnhlhiiehfaa", sum := "7a31e7ad494a20335cd4ffb71c14f918ff2521eae24f5abca266036c3cb16d5c", func := "headend/headendlaw2.BoxCompactsMatchSpec", spec := "boxCompactsMatchSpec", recurses := true, apart := false, narrowed := true }
def BoxCompactsMatchSpecUptoSaid : Prop := boxCompactsMatchSpecUptoRow.holds Try.pinned (OpenSpec.upto boxCompactsMatchSpecSpec)

/-- 'headendlaw2.BoxFragmentsReadMatchSpec', WHERE WHAT IT READS IS OF BULK AT MOST 1048576: true; the input reads as it did. -/
def boxFragmentsReadMatchSpecUptoRow : OpenClaim := { program := "ytgnmnhlhiiehfaa", sum := "7a31e7ad494a20335cd4ffb71c14f918ff2521eae24f5abca266036c3cb16d5c", func := "headend/headendlaw2.BoxFragmentsReadMatchSpec", spec := "boxFragmentsReadMatchSpec", recurses := true, apart := false, narrowed := true }
def BoxFragmentsReadMatchSpecUptoSaid : Prop := boxFragmentsReadMatchSpecUptoRow.holds Try.pinned (OpenSpec.upto boxFragmentsReadMatchSpecSpec)

/-- 'headendlaw2.BoxFragmentsMatchSpec', WHERE WHAT IT READS IS OF BULK AT MOST 1048576: true; the input reads as it did. -/
def boxFragmentsMatchSpecUptoRow : OpenClaim := { program := "ytgnmnhlhiiehfaa", sum := "7a31e7ad494a20335cd4ffb71c14f918ff2521eae24f5abca266036c3cb16d5c", func := "headend/headendlaw2.BoxFragmentsMatchSpec", spec := "boxFragmentsMatchSpec", recurses := true, apart := false, narrowed := true }
def BoxFragmentsMatchSpecUptoSaid : Prop := boxFragmentsMatchSpecUptoRow.holds Try.pinned (OpenSpec.upto boxFragmentsMatchSpecSpec)

/-- 'headendlaw2.BoxFragmentsComeBack', WHERE WHAT IT READS IS OF BULK AT MOST 1048576: true; the input reads as it did. -/
def boxFragmentsComeBackUptoRow : OpenClaim := { program := "ytgnmnhlhiiehfaa", sum := "7a31e7ad494a20335cd4ffb71c14f918ff2521eae24f5abca266036c3cb16d5c", func := "headend/headendlaw2.BoxFragmentsComeBack", spec := "boxFragmentsComeBack", recurses := true, apart := false, narrowed := true }
def BoxFragmentsComeBackUptoSaid : Prop := boxFragmentsComeBackUptoRow.holds Try.pinned (OpenSpec.upto boxFragmentsComeBackSpec)

end Rows
end Go.Proofs.Ytgnmnhlhiiehfaa
