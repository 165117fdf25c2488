/-
  No cell of these rows narrows 'for every input' (looked for: loops, veiled, ifaces, maps, wideKeys, modest, calm, conditions, laid).
  DERIVED. THE GIVEN ROWS OF THIS SEAT. 3 by the template 'for every input the law returns true; each argument reads behind the call as it read before'; 0 by the template 'total and deterministic' (their statements: YtlonhkjplijlcaaTotals.lean).
  GIVEN WITH THE SEED: the statements are not yours to turn. If you find one false, say at which input.
  Laid BY PROGRAM, IN A SANDBOX (cutbox-rows.mjs): the forced cells as the released guide's own fill.sh prints them over the translation 929f309dd9ce5e38… (all of the seat's roots in one cut). By AI agents, Wed Nov 11 2026. No macro, syntax, notation, axiom, sorry.
-/
import Derived.Test.YtlonhkjplijlcaaChecked
import GoSem.Claim
import GoSem.ClaimJoined
import GoSem.ClaimMapViews
import Derived.JoinedTies
import Derived.KernelRfl
namespace Go.Proofs.Ytlonhkjplijlcaa
/- THE CELL 'sum', in the pinned program and in every row, IS THE sha256 OF THE DUMP (.gsa) THAT YtlonhkjplijlcaaProg.lean LOADS. Nothing in Lean hashes anything: it is a label: what it is worth is what the hold of that sum in a sandbox is worth. -/
noncomputable def Try.pinned : Pinned := { name := "ytlonhkjplijlcaa", sum := "929f309dd9ce5e386a2fdca3905cef67e451550796de14d0a67e32d4c36756d4", checked := Try.checked }
namespace Rows
def none {H : Type} : Left H := { results := [], args := [] }

/-- 'headendlaw2.BoxFilmsWriteMatchSpec': WHATEVER THE INPUT: true; the input reads as it did. -/
def boxFilmsWriteMatchSpecSpec : ChangeSpec := { name := "boxFilmsWriteMatchSpec", fn := fun _ => fun
  | [d1, d2, d3] => { results := [.lit (.bool true)], args := [d1, d2, d3] }
  | _ => none }
def boxFilmsWriteMatchSpecRow : OpenClaim := { program := "ytlonhkjplijlcaa", sum := "929f309dd9ce5e386a2fdca3905cef67e451550796de14d0a67e32d4c36756d4", func := "headend/headendlaw2.BoxFilmsWriteMatchSpec", spec := "boxFilmsWriteMatchSpec", recurses := true, apart := false }
def BoxFilmsWriteMatchSpecSaid : Prop := boxFilmsWriteMatchSpecRow.holds Try.pinned (OpenSpec.ofChange boxFilmsWriteMatchSpecSpec)

/-- ITS FALSE NEIGHBOUR: 'it returns false'. Refute it at one input. -/
def boxFilmsWriteMatchSpecWrong : ChangeSpec := { name := "boxFilmsWriteMatchSpec", fn := fun _ => fun
  | [d1, d2, d3] => { results := [.lit (.bool false)], args := [d1, d2, d3] }
  | _ => none }
def BoxFilmsWriteMatchSpecWrongFalsely : Prop := boxFilmsWriteMatchSpecRow.holds Try.pinned (OpenSpec.ofChange boxFilmsWriteMatchSpecWrong)

/-- 'headendlaw2.BoxFilmsReadMatchSpec': WHATEVER THE INPUT: true; the input reads as it did. -/
def boxFilmsReadMatchSpecSpec : ChangeSpec := { name := "boxFilmsReadMatchSpec", fn := fun _ => fun
  | [d] => { results := [.lit (.bool true)], args := [d] }
  | _ => none }
def boxFilmsReadMatchSpecRow : OpenClaim := { program := "ytlonhkjplijlcaa", sum := "929f309dd9ce5e386a2fdca3905cef67e451550796de14d0a67e32d4c36756d4", func := "headend/headendlaw2.BoxFilmsReadMatchSpec", spec := "boxFilmsReadMatchSpec", recurses := true, apart := false }
def BoxFilmsReadMatchSpecSaid : Prop := boxFilmsReadMatchSpecRow.holds Try.pinned (OpenSpec.ofChange boxFilmsReadMatchSpecSpec)

/-- ITS FALSE NEIGHBOUR: 'it returns false'. Refute it at one input. -/
def boxFilmsReadMatchSpecWrong : ChangeSpec := { name := "boxFilmsReadMatchSpec", fn := fun _ => fun
  | [d] => { results := [.lit (.bool false)], args := [d] }
  | _ => none }
def BoxFilmsReadMatchSpecWrongFalsely : Prop := boxFilmsReadMatchSpecRow.holds Try.pinned (OpenSpec.ofChange boxFilmsReadMatchSpecWrong)

/-- 'headendlaw2.BoxFilmsComeBack': WHATEVER THE INPUT: true; the input reads as it did. -/
def boxFilmsComeBackSpec : ChangeSpec := { name := "boxFilmsComeBack", fn := fun _ => fun
  | [d1, d2, d3] => { results := [.lit (.bool true)], args := [d1, d2, d3] }
  | _ => none }
def boxFilmsComeBackRow : OpenClaim := { program := "ytlonhkjplijlcaa", sum := "929f309dd9ce5e386a2fdca3905cef67e451550796de14d0a67e32d4c36756d4", func := "headend/headendlaw2.BoxFilmsComeBack", spec := "boxFilmsComeBack", recurses := true, apart := false }
def BoxFilmsComeBackSaid : Prop := boxFilmsComeBackRow.holds Try.pinned (OpenSpec.ofChange boxFilmsComeBackSpec)

/-- ITS FALSE NEIGHBOUR: 'it returns false'. Refute it at one input. -/
def boxFilmsComeBackWrong : ChangeSpec := { name := "boxFilmsComeBack", fn := fun _ => fun
  | [d1, d2, d3] => { results := [.lit (.bool false)], args := [d1, d2, d3] }
  | _ => none }
def BoxFilmsComeBackWrongFalsely : Prop := boxFilmsComeBackRow.holds Try.pinned (OpenSpec.ofChange boxFilmsComeBackWrong)

/- THE SECOND FORM. 'bulk': how many values and letters a reading holds, each counted each time it is reached (what is shared counts as often as it is met; a slice's spare places count too). A statement '..UptoSaid' is the law's where the arguments, and the package variables that the reading takes, are together of bulk at most 1048576: NARROWER than '..Said'. Prove '..Said' where nothing that the law and all that it calls make is longer than what came in: it says more and counts as full. Else prove '..UptoSaid'. A law counts once. -/
mutual
def uptoBulk {H : Type} : DataW H → Nat
  | .lit (.string bytes) => bytes.length + 1
  | .lit _ => 1
  | .nil => 1
  | .ptr d => uptoBulk d + 1
  | .slice elems spare => uptoBulkAll elems + uptoBulkAll spare + 1
  | .agg parts => uptoBulkAll parts + 1
  | .iface _ d => uptoBulk d + 1
  | .map entries => uptoBulkEntries entries + 1
  | .held _ => 1
def uptoBulkAll {H : Type} : List (DataW H) → Nat
  | [] => 0
  | d :: r => uptoBulk d + uptoBulkAll r
def uptoBulkEntries {H : Type} : List (Lit × DataW H) → Nat
  | [] => 0
  | x :: r => uptoBulkEntry x + uptoBulkEntries r
def uptoBulkEntry {H : Type} : Lit × DataW H → Nat
  | (.string bytes, d) => bytes.length + uptoBulk d + 1
  | (_, d) => uptoBulk d + 1
 end
def uptoSmall : (H : Type) → List (DataW H) → Bool := fun _ ds => decide (uptoBulkAll ds ≤ 1048576)
def OpenSpec.upto (s : _root_.Go.ChangeSpec) : _root_.Go.OpenSpec := { _root_.Go.OpenSpec.ofChange s with cond := some uptoSmall }

/-- 'headendlaw2.BoxFilmsWriteMatchSpec', WHERE WHAT IT READS IS OF BULK AT MOST 1048576: true; the input reads as it did. -/
def boxFilmsWriteMatchSpecUptoRow : OpenClaim := { program := "ytlonhkjplijlcaa", sum := "929f309dd9ce5e386a2fdca3905cef67e451550796de14d0a67e32d4c36756d4", func := "headend/headendlaw2.BoxFilmsWriteMatchSpec", spec := "boxFilmsWriteMatchSpec", recurses := true, apart := false, narrowed := true }
def BoxFilmsWriteMatchSpecUptoSaid : Prop := boxFilmsWriteMatchSpecUptoRow.holds Try.pinned (OpenSpec.upto boxFilmsWriteMatchSpecSpec)

/-- 'headendlaw2.BoxFilmsReadMatchSpec', WHERE WHAT IT READS IS OF BULK AT MOST 1048576: true; the input reads as it did. -/
def boxFilmsReadMatchSpecUptoRow : OpenClaim := { program := "ytlonhkjplijlcaa", sum := "929f309dd9ce5e386a2fdca3905cef67e451550796de14d0a67e32d4c36756d4", func := "headend/headendlaw2.BoxFilmsReadMatchSpec", spec := "boxFilmsReadMatchSpec", recurses := true, apart := false, narrowed := true }
def BoxFilmsReadMatchSpecUptoSaid : Prop := boxFilmsReadMatchSpecUptoRow.holds Try.pinned (OpenSpec.upto boxFilmsReadMatchSpecSpec)

/-- 'headendlaw2.BoxFilmsComeBack', WHERE WHAT IT READS IS OF BULK AT MOST 1048576: true; the input reads as it did. -/
def boxFilmsComeBackUptoRow : OpenClaim := { program := "ytlonhkjplijlcaa", sum := "929f309dd9ce5e386a2fdca3905cef67e451550796de14d0a67e32d4c36756d4", func := "headend/headendlaw2.BoxFilmsComeBack", spec := "boxFilmsComeBack", recurses := true, apart := false, narrowed := true }
def BoxFilmsComeBackUptoSaid : Prop := boxFilmsComeBackUptoRow.holds Try.pinned (OpenSpec.upto boxFilmsComeBackSpec)

end Rows
end Go.Proofs.Ytlonhkjplijlcaa
