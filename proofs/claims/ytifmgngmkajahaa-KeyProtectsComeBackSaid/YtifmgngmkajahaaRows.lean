/-
  No cell of these rows narrows 'for every input' (looked for: loops, veiled, ifaces, maps, wideKeys, modest, calm, conditions, laid).
  DERIVED. THE GIVEN ROWS OF THIS SEAT. 17 by the template 'for every input the law returns true; each argument reads behind the call as it read before'; 0 by the template 'total and deterministic' (their statements: YtifmgngmkajahaaTotals.lean).
  GIVEN WITH THE SEED: the statements are not yours to turn. If you find one false, say at which input.
  Laid BY PROGRAM, IN A SANDBOX (cutbox-rows.mjs): the forced cells as the released guide's own fill.sh prints them over the translation ab3cfd188a982f06… (all of the seat's roots in one cut). By AI agents, Wed Nov 11 2026. No macro, syntax, notation, axiom, sorry.
-/
import Derived.Test.YtifmgngmkajahaaChecked
import GoSem.Claim
import GoSem.ClaimJoined
import GoSem.ClaimMapViews
import Derived.JoinedTies
import Derived.KernelRfl
namespace Go.Proofs.Ytifmgngmkajahaa
/- THE CELL 'sum', in the pinned program and in every row, IS THE sha256 OF THE DUMP (.gsa) THAT YtifmgngmkajahaaProg.lean LOADS. Nothing in Lean hashes anything: it is a label: what it is worth is what the hold of that sum in a sandbox is worth. -/
noncomputable def Try.pinned : Pinned := { name := "ytifmgngmkajahaa", sum := "ab3cfd188a982f062513e5201f804483f590b096713e67d2f2ef053e24418c9f", checked := Try.checked }
namespace Rows
def none {H : Type} : Left H := { results := [], args := [] }

/-- 'headendlaw8.KeyDigestsMatchSpec': WHATEVER THE INPUT: true; the input reads as it did. -/
def keyDigestsMatchSpecSpec : ChangeSpec := { name := "keyDigestsMatchSpec", fn := fun _ => fun
  | [d] => { results := [.lit (.bool true)], args := [d] }
  | _ => none }
def keyDigestsMatchSpecRow : OpenClaim := { program := "ytifmgngmkajahaa", sum := "ab3cfd188a982f062513e5201f804483f590b096713e67d2f2ef053e24418c9f", func := "headend/headendlaw8.KeyDigestsMatchSpec", spec := "keyDigestsMatchSpec", apart := false }
def KeyDigestsMatchSpecSaid : Prop := keyDigestsMatchSpecRow.holds Try.pinned (OpenSpec.ofChange keyDigestsMatchSpecSpec)

/-- ITS FALSE NEIGHBOUR: 'it returns false'. Refute it at one input. -/
def keyDigestsMatchSpecWrong : ChangeSpec := { name := "keyDigestsMatchSpec", fn := fun _ => fun
  | [d] => { results := [.lit (.bool false)], args := [d] }
  | _ => none }
def KeyDigestsMatchSpecWrongFalsely : Prop := keyDigestsMatchSpecRow.holds Try.pinned (OpenSpec.ofChange keyDigestsMatchSpecWrong)

/-- 'headendlaw8.KeyBlocksMatchSpec': WHATEVER THE INPUT: true; the input reads as it did. -/
def keyBlocksMatchSpecSpec : ChangeSpec := { name := "keyBlocksMatchSpec", fn := fun _ => fun
  | [d1, d2] => { results := [.lit (.bool true)], args := [d1, d2] }
  | _ => none }
def keyBlocksMatchSpecRow : OpenClaim := { program := "ytifmgngmkajahaa", sum := "ab3cfd188a982f062513e5201f804483f590b096713e67d2f2ef053e24418c9f", func := "headend/headendlaw8.KeyBlocksMatchSpec", spec := "keyBlocksMatchSpec", apart := false }
def KeyBlocksMatchSpecSaid : Prop := keyBlocksMatchSpecRow.holds Try.pinned (OpenSpec.ofChange keyBlocksMatchSpecSpec)

/-- ITS FALSE NEIGHBOUR: 'it returns false'. Refute it at one input. -/
def keyBlocksMatchSpecWrong : ChangeSpec := { name := "keyBlocksMatchSpec", fn := fun _ => fun
  | [d1, d2] => { results := [.lit (.bool false)], args := [d1, d2] }
  | _ => none }
def KeyBlocksMatchSpecWrongFalsely : Prop := keyBlocksMatchSpecRow.holds Try.pinned (OpenSpec.ofChange keyBlocksMatchSpecWrong)

/-- 'headendlaw8.KeyBlocksComeBack': WHATEVER THE INPUT: true; the input reads as it did. -/
def keyBlocksComeBackSpec : ChangeSpec := { name := "keyBlocksComeBack", fn := fun _ => fun
  | [d1, d2] => { results := [.lit (.bool true)], args := [d1, d2] }
  | _ => none }
def keyBlocksComeBackRow : OpenClaim := { program := "ytifmgngmkajahaa", sum := "ab3cfd188a982f062513e5201f804483f590b096713e67d2f2ef053e24418c9f", func := "headend/headendlaw8.KeyBlocksComeBack", spec := "keyBlocksComeBack", apart := false }
def KeyBlocksComeBackSaid : Prop := keyBlocksComeBackRow.holds Try.pinned (OpenSpec.ofChange keyBlocksComeBackSpec)

/-- ITS FALSE NEIGHBOUR: 'it returns false'. Refute it at one input. -/
def keyBlocksComeBackWrong : ChangeSpec := { name := "keyBlocksComeBack", fn := fun _ => fun
  | [d1, d2] => { results := [.lit (.bool false)], args := [d1, d2] }
  | _ => none }
def KeyBlocksComeBackWrongFalsely : Prop := keyBlocksComeBackRow.holds Try.pinned (OpenSpec.ofChange keyBlocksComeBackWrong)

/-- 'headendlaw8.KeyNeededAreEnough': WHATEVER THE INPUT: true; the input reads as it did. -/
def keyNeededAreEnoughSpec : ChangeSpec := { name := "keyNeededAreEnough", fn := fun _ => fun
  | [d1, d2, d3] => { results := [.lit (.bool true)], args := [d1, d2, d3] }
  | _ => none }
def keyNeededAreEnoughRow : OpenClaim := { program := "ytifmgngmkajahaa", sum := "ab3cfd188a982f062513e5201f804483f590b096713e67d2f2ef053e24418c9f", func := "headend/headendlaw8.KeyNeededAreEnough", spec := "keyNeededAreEnough", apart := false }
def KeyNeededAreEnoughSaid : Prop := keyNeededAreEnoughRow.holds Try.pinned (OpenSpec.ofChange keyNeededAreEnoughSpec)

/-- ITS FALSE NEIGHBOUR: 'it returns false'. Refute it at one input. -/
def keyNeededAreEnoughWrong : ChangeSpec := { name := "keyNeededAreEnough", fn := fun _ => fun
  | [d1, d2, d3] => { results := [.lit (.bool false)], args := [d1, d2, d3] }
  | _ => none }
def KeyNeededAreEnoughWrongFalsely : Prop := keyNeededAreEnoughRow.holds Try.pinned (OpenSpec.ofChange keyNeededAreEnoughWrong)

/-- 'headendlaw8.KeyChainsComeBack': WHATEVER THE INPUT: true; the input reads as it did. -/
def keyChainsComeBackSpec : ChangeSpec := { name := "keyChainsComeBack", fn := fun _ => fun
  | [d1, d2, d3] => { results := [.lit (.bool true)], args := [d1, d2, d3] }
  | _ => none }
def keyChainsComeBackRow : OpenClaim := { program := "ytifmgngmkajahaa", sum := "ab3cfd188a982f062513e5201f804483f590b096713e67d2f2ef053e24418c9f", func := "headend/headendlaw8.KeyChainsComeBack", spec := "keyChainsComeBack", apart := false }
def KeyChainsComeBackSaid : Prop := keyChainsComeBackRow.holds Try.pinned (OpenSpec.ofChange keyChainsComeBackSpec)

/-- ITS FALSE NEIGHBOUR: 'it returns false'. Refute it at one input. -/
def keyChainsComeBackWrong : ChangeSpec := { name := "keyChainsComeBack", fn := fun _ => fun
  | [d1, d2, d3] => { results := [.lit (.bool false)], args := [d1, d2, d3] }
  | _ => none }
def KeyChainsComeBackWrongFalsely : Prop := keyChainsComeBackRow.holds Try.pinned (OpenSpec.ofChange keyChainsComeBackWrong)

/-- 'headendlaw8.KeyUnitsMatchSpec': WHATEVER THE INPUT: true; the input reads as it did. -/
def keyUnitsMatchSpecSpec : ChangeSpec := { name := "keyUnitsMatchSpec", fn := fun _ => fun
  | [d1, d2, d3] => { results := [.lit (.bool true)], args := [d1, d2, d3] }
  | _ => none }
def keyUnitsMatchSpecRow : OpenClaim := { program := "ytifmgngmkajahaa", sum := "ab3cfd188a982f062513e5201f804483f590b096713e67d2f2ef053e24418c9f", func := "headend/headendlaw8.KeyUnitsMatchSpec", spec := "keyUnitsMatchSpec", apart := false }
def KeyUnitsMatchSpecSaid : Prop := keyUnitsMatchSpecRow.holds Try.pinned (OpenSpec.ofChange keyUnitsMatchSpecSpec)

/-- ITS FALSE NEIGHBOUR: 'it returns false'. Refute it at one input. -/
def keyUnitsMatchSpecWrong : ChangeSpec := { name := "keyUnitsMatchSpec", fn := fun _ => fun
  | [d1, d2, d3] => { results := [.lit (.bool false)], args := [d1, d2, d3] }
  | _ => none }
def KeyUnitsMatchSpecWrongFalsely : Prop := keyUnitsMatchSpecRow.holds Try.pinned (OpenSpec.ofChange keyUnitsMatchSpecWrong)

/-- 'headendlaw8.KeyCountersJoin': WHATEVER THE INPUT: true; the input reads as it did. -/
def keyCountersJoinSpec : ChangeSpec := { name := "keyCountersJoin", fn := fun _ => fun
  | [d1, d2, d3, d4, d5] => { results := [.lit (.bool true)], args := [d1, d2, d3, d4, d5] }
  | _ => none }
def keyCountersJoinRow : OpenClaim := { program := "ytifmgngmkajahaa", sum := "ab3cfd188a982f062513e5201f804483f590b096713e67d2f2ef053e24418c9f", func := "headend/headendlaw8.KeyCountersJoin", spec := "keyCountersJoin", apart := false }
def KeyCountersJoinSaid : Prop := keyCountersJoinRow.holds Try.pinned (OpenSpec.ofChange keyCountersJoinSpec)

/-- ITS FALSE NEIGHBOUR: 'it returns false'. Refute it at one input. -/
def keyCountersJoinWrong : ChangeSpec := { name := "keyCountersJoin", fn := fun _ => fun
  | [d1, d2, d3, d4, d5] => { results := [.lit (.bool false)], args := [d1, d2, d3, d4, d5] }
  | _ => none }
def KeyCountersJoinWrongFalsely : Prop := keyCountersJoinRow.holds Try.pinned (OpenSpec.ofChange keyCountersJoinWrong)

/-- 'headendlaw8.KeyModesMatchSpec': WHATEVER THE INPUT: true; the input reads as it did. -/
def keyModesMatchSpecSpec : ChangeSpec := { name := "keyModesMatchSpec", fn := fun _ => fun
  | [d1, d2, d3, d4] => { results := [.lit (.bool true)], args := [d1, d2, d3, d4] }
  | _ => none }
def keyModesMatchSpecRow : OpenClaim := { program := "ytifmgngmkajahaa", sum := "ab3cfd188a982f062513e5201f804483f590b096713e67d2f2ef053e24418c9f", func := "headend/headendlaw8.KeyModesMatchSpec", spec := "keyModesMatchSpec", apart := false }
def KeyModesMatchSpecSaid : Prop := keyModesMatchSpecRow.holds Try.pinned (OpenSpec.ofChange keyModesMatchSpecSpec)

/-- ITS FALSE NEIGHBOUR: 'it returns false'. Refute it at one input. -/
def keyModesMatchSpecWrong : ChangeSpec := { name := "keyModesMatchSpec", fn := fun _ => fun
  | [d1, d2, d3, d4] => { results := [.lit (.bool false)], args := [d1, d2, d3, d4] }
  | _ => none }
def KeyModesMatchSpecWrongFalsely : Prop := keyModesMatchSpecRow.holds Try.pinned (OpenSpec.ofChange keyModesMatchSpecWrong)

/-- 'headendlaw8.KeySchemesMatchSpec': WHATEVER THE INPUT: true; the input reads as it did. -/
def keySchemesMatchSpecSpec : ChangeSpec := { name := "keySchemesMatchSpec", fn := fun _ => fun
  | [d1, d2, d3] => { results := [.lit (.bool true)], args := [d1, d2, d3] }
  | _ => none }
def keySchemesMatchSpecRow : OpenClaim := { program := "ytifmgngmkajahaa", sum := "ab3cfd188a982f062513e5201f804483f590b096713e67d2f2ef053e24418c9f", func := "headend/headendlaw8.KeySchemesMatchSpec", spec := "keySchemesMatchSpec", apart := false }
def KeySchemesMatchSpecSaid : Prop := keySchemesMatchSpecRow.holds Try.pinned (OpenSpec.ofChange keySchemesMatchSpecSpec)

/-- ITS FALSE NEIGHBOUR: 'it returns false'. Refute it at one input. -/
def keySchemesMatchSpecWrong : ChangeSpec := { name := "keySchemesMatchSpec", fn := fun _ => fun
  | [d1, d2, d3] => { results := [.lit (.bool false)], args := [d1, d2, d3] }
  | _ => none }
def KeySchemesMatchSpecWrongFalsely : Prop := keySchemesMatchSpecRow.holds Try.pinned (OpenSpec.ofChange keySchemesMatchSpecWrong)

/-- 'headendlaw8.KeyLeasesAreFew': WHATEVER THE INPUT: true; the input reads as it did. -/
def keyLeasesAreFewSpec : ChangeSpec := { name := "keyLeasesAreFew", fn := fun _ => fun
  | [d1, d2, d3] => { results := [.lit (.bool true)], args := [d1, d2, d3] }
  | _ => none }
def keyLeasesAreFewRow : OpenClaim := { program := "ytifmgngmkajahaa", sum := "ab3cfd188a982f062513e5201f804483f590b096713e67d2f2ef053e24418c9f", func := "headend/headendlaw8.KeyLeasesAreFew", spec := "keyLeasesAreFew", unfollowed := true, recurses := true, apart := false }
def KeyLeasesAreFewSaid : Prop := keyLeasesAreFewRow.holds Try.pinned (OpenSpec.ofChange keyLeasesAreFewSpec)

/-- ITS FALSE NEIGHBOUR: 'it returns false'. Refute it at one input. -/
def keyLeasesAreFewWrong : ChangeSpec := { name := "keyLeasesAreFew", fn := fun _ => fun
  | [d1, d2, d3] => { results := [.lit (.bool false)], args := [d1, d2, d3] }
  | _ => none }
def KeyLeasesAreFewWrongFalsely : Prop := keyLeasesAreFewRow.holds Try.pinned (OpenSpec.ofChange keyLeasesAreFewWrong)

/-- 'headendlaw8.KeyRotationsMatchSpec': WHATEVER THE INPUT: true; the input reads as it did. -/
def keyRotationsMatchSpecSpec : ChangeSpec := { name := "keyRotationsMatchSpec", fn := fun _ => fun
  | [d1, d2, d3, d4, d5] => { results := [.lit (.bool true)], args := [d1, d2, d3, d4, d5] }
  | _ => none }
def keyRotationsMatchSpecRow : OpenClaim := { program := "ytifmgngmkajahaa", sum := "ab3cfd188a982f062513e5201f804483f590b096713e67d2f2ef053e24418c9f", func := "headend/headendlaw8.KeyRotationsMatchSpec", spec := "keyRotationsMatchSpec", apart := false }
def KeyRotationsMatchSpecSaid : Prop := keyRotationsMatchSpecRow.holds Try.pinned (OpenSpec.ofChange keyRotationsMatchSpecSpec)

/-- ITS FALSE NEIGHBOUR: 'it returns false'. Refute it at one input. -/
def keyRotationsMatchSpecWrong : ChangeSpec := { name := "keyRotationsMatchSpec", fn := fun _ => fun
  | [d1, d2, d3, d4, d5] => { results := [.lit (.bool false)], args := [d1, d2, d3, d4, d5] }
  | _ => none }
def KeyRotationsMatchSpecWrongFalsely : Prop := keyRotationsMatchSpecRow.holds Try.pinned (OpenSpec.ofChange keyRotationsMatchSpecWrong)

/-- 'headendlaw8.KeyFewerTouchTheSame': WHATEVER THE INPUT: true; the input reads as it did. -/
def keyFewerTouchTheSameSpec : ChangeSpec := { name := "keyFewerTouchTheSame", fn := fun _ => fun
  | [d1, d2, d3, d4, d5] => { results := [.lit (.bool true)], args := [d1, d2, d3, d4, d5] }
  | _ => none }
def keyFewerTouchTheSameRow : OpenClaim := { program := "ytifmgngmkajahaa", sum := "ab3cfd188a982f062513e5201f804483f590b096713e67d2f2ef053e24418c9f", func := "headend/headendlaw8.KeyFewerTouchTheSame", spec := "keyFewerTouchTheSame", unfollowed := true, recurses := true, apart := false }
def KeyFewerTouchTheSameSaid : Prop := keyFewerTouchTheSameRow.holds Try.pinned (OpenSpec.ofChange keyFewerTouchTheSameSpec)

/-- ITS FALSE NEIGHBOUR: 'it returns false'. Refute it at one input. -/
def keyFewerTouchTheSameWrong : ChangeSpec := { name := "keyFewerTouchTheSame", fn := fun _ => fun
  | [d1, d2, d3, d4, d5] => { results := [.lit (.bool false)], args := [d1, d2, d3, d4, d5] }
  | _ => none }
def KeyFewerTouchTheSameWrongFalsely : Prop := keyFewerTouchTheSameRow.holds Try.pinned (OpenSpec.ofChange keyFewerTouchTheSameWrong)

/-- 'headendlaw8.KeyLeasesMatchSpec': WHATEVER THE INPUT: true; the input reads as it did. -/
def keyLeasesMatchSpecSpec : ChangeSpec := { name := "keyLeasesMatchSpec", fn := fun _ => fun
  | [d1, d2, d3, d4] => { results := [.lit (.bool true)], args := [d1, d2, d3, d4] }
  | _ => none }
def keyLeasesMatchSpecRow : OpenClaim := { program := "ytifmgngmkajahaa", sum := "ab3cfd188a982f062513e5201f804483f590b096713e67d2f2ef053e24418c9f", func := "headend/headendlaw8.KeyLeasesMatchSpec", spec := "keyLeasesMatchSpec", unfollowed := true, recurses := true, apart := false }
def KeyLeasesMatchSpecSaid : Prop := keyLeasesMatchSpecRow.holds Try.pinned (OpenSpec.ofChange keyLeasesMatchSpecSpec)

/-- ITS FALSE NEIGHBOUR: 'it returns false'. Refute it at one input. -/
def keyLeasesMatchSpecWrong : ChangeSpec := { name := "keyLeasesMatchSpec", fn := fun _ => fun
  | [d1, d2, d3, d4] => { results := [.lit (.bool false)], args := [d1, d2, d3, d4] }
  | _ => none }
def KeyLeasesMatchSpecWrongFalsely : Prop := keyLeasesMatchSpecRow.holds Try.pinned (OpenSpec.ofChange keyLeasesMatchSpecWrong)

/-- 'headendlaw8.KeyProtectsMatchSpec': WHATEVER THE INPUT: true; the input reads as it did. -/
def keyProtectsMatchSpecSpec : ChangeSpec := { name := "keyProtectsMatchSpec", fn := fun _ => fun
  | [d1, d2, d3, d4, d5] => { results := [.lit (.bool true)], args := [d1, d2, d3, d4, d5] }
  | _ => none }
def keyProtectsMatchSpecRow : OpenClaim := { program := "ytifmgngmkajahaa", sum := "ab3cfd188a982f062513e5201f804483f590b096713e67d2f2ef053e24418c9f", func := "headend/headendlaw8.KeyProtectsMatchSpec", spec := "keyProtectsMatchSpec", unfollowed := true, recurses := true, apart := false }
def KeyProtectsMatchSpecSaid : Prop := keyProtectsMatchSpecRow.holds Try.pinned (OpenSpec.ofChange keyProtectsMatchSpecSpec)

/-- ITS FALSE NEIGHBOUR: 'it returns false'. Refute it at one input. -/
def keyProtectsMatchSpecWrong : ChangeSpec := { name := "keyProtectsMatchSpec", fn := fun _ => fun
  | [d1, d2, d3, d4, d5] => { results := [.lit (.bool false)], args := [d1, d2, d3, d4, d5] }
  | _ => none }
def KeyProtectsMatchSpecWrongFalsely : Prop := keyProtectsMatchSpecRow.holds Try.pinned (OpenSpec.ofChange keyProtectsMatchSpecWrong)

/-- 'headendlaw8.KeyLicencesMatchSpec': WHATEVER THE INPUT: true; the input reads as it did. -/
def keyLicencesMatchSpecSpec : ChangeSpec := { name := "keyLicencesMatchSpec", fn := fun _ => fun
  | [d1, d2, d3, d4] => { results := [.lit (.bool true)], args := [d1, d2, d3, d4] }
  | _ => none }
def keyLicencesMatchSpecRow : OpenClaim := { program := "ytifmgngmkajahaa", sum := "ab3cfd188a982f062513e5201f804483f590b096713e67d2f2ef053e24418c9f", func := "headend/headendlaw8.KeyLicencesMatchSpec", spec := "keyLicencesMatchSpec", unfollowed := true, recurses := true, apart := false }
def KeyLicencesMatchSpecSaid : Prop := keyLicencesMatchSpecRow.holds Try.pinned (OpenSpec.ofChange keyLicencesMatchSpecSpec)

/-- ITS FALSE NEIGHBOUR: 'it returns false'. Refute it at one input. -/
def keyLicencesMatchSpecWrong : ChangeSpec := { name := "keyLicencesMatchSpec", fn := fun _ => fun
  | [d1, d2, d3, d4] => { results := [.lit (.bool false)], args := [d1, d2, d3, d4] }
  | _ => none }
def KeyLicencesMatchSpecWrongFalsely : Prop := keyLicencesMatchSpecRow.holds Try.pinned (OpenSpec.ofChange keyLicencesMatchSpecWrong)

/-- 'headendlaw8.KeyUntilIsTheEnd': WHATEVER THE INPUT: true; the input reads as it did. -/
def keyUntilIsTheEndSpec : ChangeSpec := { name := "keyUntilIsTheEnd", fn := fun _ => fun
  | [d1, d2, d3, d4, d5] => { results := [.lit (.bool true)], args := [d1, d2, d3, d4, d5] }
  | _ => none }
def keyUntilIsTheEndRow : OpenClaim := { program := "ytifmgngmkajahaa", sum := "ab3cfd188a982f062513e5201f804483f590b096713e67d2f2ef053e24418c9f", func := "headend/headendlaw8.KeyUntilIsTheEnd", spec := "keyUntilIsTheEnd", unfollowed := true, recurses := true, apart := false }
def KeyUntilIsTheEndSaid : Prop := keyUntilIsTheEndRow.holds Try.pinned (OpenSpec.ofChange keyUntilIsTheEndSpec)

/-- ITS FALSE NEIGHBOUR: 'it returns false'. Refute it at one input. -/
def keyUntilIsTheEndWrong : ChangeSpec := { name := "keyUntilIsTheEnd", fn := fun _ => fun
  | [d1, d2, d3, d4, d5] => { results := [.lit (.bool false)], args := [d1, d2, d3, d4, d5] }
  | _ => none }
def KeyUntilIsTheEndWrongFalsely : Prop := keyUntilIsTheEndRow.holds Try.pinned (OpenSpec.ofChange keyUntilIsTheEndWrong)

/-- 'headendlaw8.KeyProtectsComeBack': WHATEVER THE INPUT: true; the input reads as it did. -/
def keyProtectsComeBackSpec : ChangeSpec := { name := "keyProtectsComeBack", fn := fun _ => fun
  | [d1, d2, d3, d4, d5] => { results := [.lit (.bool true)], args := [d1, d2, d3, d4, d5] }
  | _ => none }
def keyProtectsComeBackRow : OpenClaim := { program := "ytifmgngmkajahaa", sum := "ab3cfd188a982f062513e5201f804483f590b096713e67d2f2ef053e24418c9f", func := "headend/headendlaw8.KeyProtectsComeBack", spec := "keyProtectsComeBack", unfollowed := true, recurses := true, apart := false }
def KeyProtectsComeBackSaid : Prop := keyProtectsComeBackRow.holds Try.pinned (OpenSpec.ofChange keyProtectsComeBackSpec)

/-- ITS FALSE NEIGHBOUR: 'it returns false'. Refute it at one input. -/
def keyProtectsComeBackWrong : ChangeSpec := { name := "keyProtectsComeBack", fn := fun _ => fun
  | [d1, d2, d3, d4, d5] => { results := [.lit (.bool false)], args := [d1, d2, d3, d4, d5] }
  | _ => none }
def KeyProtectsComeBackWrongFalsely : Prop := keyProtectsComeBackRow.holds Try.pinned (OpenSpec.ofChange keyProtectsComeBackWrong)

/- THE SECOND FORM. 'bulk': how many values and letters a reading holds, each counted each time it is reached (what is shared counts as often as it is met; a slice's spare places count too). A statement '..UptoSaid' is the law's where the arguments, and the package variables that the reading takes, are together of bulk at most 1048576: NARROWER than '..Said'. Prove '..Said' where nothing that the law and all that it calls make is longer than what came in: it says more and counts as full. Else prove '..UptoSaid'. A law counts once. -/
mutual
def uptoBulk {H : Type} : DataW H → Nat
  | .lit (.string bytes) => bytes.length + 1
  | .lit _ => 1
  | .nil => 1
  | .ptr d => uptoBulk d + 1
  | .slice elems spare => uptoBulkAll elems + uptoBulkAll spare + 1
  | .agg parts => uptoBulkAll parts + 1
  | .iface _ d => uptoBulk d + 1
  | .map entries => uptoBulkEntries entries + 1
  | .held _ => 1
def uptoBulkAll {H : Type} : List (DataW H) → Nat
  | [] => 0
  | d :: r => uptoBulk d + uptoBulkAll r
def uptoBulkEntries {H : Type} : List (Lit × DataW H) → Nat
  | [] => 0
  | x :: r => uptoBulkEntry x + uptoBulkEntries r
def uptoBulkEntry {H : Type} : Lit × DataW H → Nat
  | (.string bytes, d) => bytes.length + uptoBulk d + 1
  | (_, d) => uptoBulk d + 1
 end
def uptoSmall : (H : Type) → List (DataW H) → Bool := fun _ ds => decide (uptoBulkAll ds ≤ 1048576)
def OpenSpec.upto (s : _root_.Go.ChangeSpec) : _root_.Go.OpenSpec := { _root_.Go.OpenSpec.ofChange s with cond := some uptoSmall }

/-- 'headendlaw8.KeyDigestsMatchSpec', WHERE WHAT IT READS IS OF BULK AT MOST 1048576: true; the input reads as it did. -/
def keyDigestsMatchSpecUptoRow : OpenClaim := { program := "ytifmgngmkajahaa", sum := "ab3cfd188a982f062513e5201f804483f590b096713e67d2f2ef053e24418c9f", func := "headend/headendlaw8.KeyDigestsMatchSpec", spec := "keyDigestsMatchSpec", apart := false, narrowed := true }
def KeyDigestsMatchSpecUptoSaid : Prop := keyDigestsMatchSpecUptoRow.holds Try.pinned (OpenSpec.upto keyDigestsMatchSpecSpec)

/-- 'headendlaw8.KeyBlocksMatchSpec', WHERE WHAT IT READS IS OF BULK AT MOST 1048576: true; the input reads as it did. -/
def keyBlocksMatchSpecUptoRow : OpenClaim := { program := "ytifmgngmkajahaa", sum := "ab3cfd188a982f062513e5201f804483f590b096713e67d2f2ef053e24418c9f", func := "headend/headendlaw8.KeyBlocksMatchSpec", spec := "keyBlocksMatchSpec", apart := false, narrowed := true }
def KeyBlocksMatchSpecUptoSaid : Prop := keyBlocksMatchSpecUptoRow.holds Try.pinned (OpenSpec.upto keyBlocksMatchSpecSpec)

/-- 'headendlaw8.KeyBlocksComeBack', WHERE WHAT IT READS IS OF BULK AT MOST 1048576: true; the input reads as it did. -/
def keyBlocksComeBackUptoRow : OpenClaim := { program := "ytifmgngmkajahaa", sum := "ab3cfd188a982f062513e5201f804483f590b096713e67d2f2ef053e24418c9f", func := "headend/headendlaw8.KeyBlocksComeBack", spec := "keyBlocksComeBack", apart := false, narrowed := true }
def KeyBlocksComeBackUptoSaid : Prop := keyBlocksComeBackUptoRow.holds Try.pinned (OpenSpec.upto keyBlocksComeBackSpec)

/-- 'headendlaw8.KeyNeededAreEnough', WHERE WHAT IT READS IS OF BULK AT MOST 1048576: true; the input reads as it did. -/
def keyNeededAreEnoughUptoRow : OpenClaim := { program := "ytifmgngmkajahaa", sum := "ab3cfd188a982f062513e5201f804483f590b096713e67d2f2ef053e24418c9f", func := "headend/headendlaw8.KeyNeededAreEnough", spec := "keyNeededAreEnough", apart := false, narrowed := true }
def KeyNeededAreEnoughUptoSaid : Prop := keyNeededAreEnoughUptoRow.holds Try.pinned (OpenSpec.upto keyNeededAreEnoughSpec)

/-- 'headendlaw8.KeyChainsComeBack', WHERE WHAT IT READS IS OF BULK AT MOST 1048576: true; the input reads as it did. -/
def keyChainsComeBackUptoRow : OpenClaim := { program := "ytifmgngmkajahaa", sum := "ab3cfd188a982f062513e5201f804483f590b096713e67d2f2ef053e24418c9f", func := "headend/headendlaw8.KeyChainsComeBack", spec := "keyChainsComeBack", apart := false, narrowed := true }
def KeyChainsComeBackUptoSaid : Prop := keyChainsComeBackUptoRow.holds Try.pinned (OpenSpec.upto keyChainsComeBackSpec)

/-- 'headendlaw8.KeyUnitsMatchSpec', WHERE WHAT IT READS IS OF BULK AT MOST 1048576: true; the input reads as it did. -/
def keyUnitsMatchSpecUptoRow : OpenClaim := { program := "ytifmgngmkajahaa", sum := "ab3cfd188a982f062513e5201f804483f590b096713e67d2f2ef053e24418c9f", func := "headend/headendlaw8.KeyUnitsMatchSpec", spec := "keyUnitsMatchSpec", apart := false, narrowed := true }
def KeyUnitsMatchSpecUptoSaid : Prop := keyUnitsMatchSpecUptoRow.holds Try.pinned (OpenSpec.upto keyUnitsMatchSpecSpec)

/-- 'headendlaw8.KeyCountersJoin', WHERE WHAT IT READS IS OF BULK AT MOST 1048576: true; the input reads as it did. -/
def keyCountersJoinUptoRow : OpenClaim := { program := "ytifmgngmkajahaa", sum := "ab3cfd188a982f062513e5201f804483f590b096713e67d2f2ef053e24418c9f", func := "headend/headendlaw8.KeyCountersJoin", spec := "keyCountersJoin", apart := false, narrowed := true }
def KeyCountersJoinUptoSaid : Prop := keyCountersJoinUptoRow.holds Try.pinned (OpenSpec.upto keyCountersJoinSpec)

/-- 'headendlaw8.KeyModesMatchSpec', WHERE WHAT IT READS IS OF BULK AT MOST 1048576: true; the input reads as it did. -/
def keyModesMatchSpecUptoRow : OpenClaim := { program := "ytifmgngmkajahaa", sum := "ab3cfd188a982f062513e5201f804483f590b096713e67d2f2ef053e24418c9f", func := "headend/headendlaw8.KeyModesMatchSpec", spec := "keyModesMatchSpec", apart := false, narrowed := true }
def KeyModesMatchSpecUptoSaid : Prop := keyModesMatchSpecUptoRow.holds Try.pinned (OpenSpec.upto keyModesMatchSpecSpec)

/-- 'headendlaw8.KeySchemesMatchSpec', WHERE WHAT IT READS IS OF BULK AT MOST 1048576: true; the input reads as it did. -/
def keySchemesMatchSpecUptoRow : OpenClaim := { program := "ytifmgngmkajahaa", sum := "ab3cfd188a982f062513e5201f804483f590b096713e67d2f2ef053e24418c9f", func := "headend/headendlaw8.KeySchemesMatchSpec", spec := "keySchemesMatchSpec", apart := false, narrowed := true }
def KeySchemesMatchSpecUptoSaid : Prop := keySchemesMatchSpecUptoRow.holds Try.pinned (OpenSpec.upto keySchemesMatchSpecSpec)

/-- 'headendlaw8.KeyLeasesAreFew', WHERE WHAT IT READS IS OF BULK AT MOST 1048576: true; the input reads as it did. -/
def keyLeasesAreFewUptoRow : OpenClaim := { program := "ytifmgngmkajahaa", sum := "ab3cfd188a982f062513e5201f804483f590b096713e67d2f2ef053e24418c9f", func := "headend/headendlaw8.KeyLeasesAreFew", spec := "keyLeasesAreFew", unfollowed := true, recurses := true, apart := false, narrowed := true }
def KeyLeasesAreFewUptoSaid : Prop := keyLeasesAreFewUptoRow.holds Try.pinned (OpenSpec.upto keyLeasesAreFewSpec)

/-- 'headendlaw8.KeyRotationsMatchSpec', WHERE WHAT IT READS IS OF BULK AT MOST 1048576: true; the input reads as it did. -/
def keyRotationsMatchSpecUptoRow : OpenClaim := { program := "ytifmgngmkajahaa", sum := "ab3cfd188a982f062513e5201f804483f590b096713e67d2f2ef053e24418c9f", func := "headend/headendlaw8.KeyRotationsMatchSpec", spec := "keyRotationsMatchSpec", apart := false, narrowed := true }
def KeyRotationsMatchSpecUptoSaid : Prop := keyRotationsMatchSpecUptoRow.holds Try.pinned (OpenSpec.upto keyRotationsMatchSpecSpec)

/-- 'headendlaw8.KeyFewerTouchTheSame', WHERE WHAT IT READS IS OF BULK AT MOST 1048576: true; the input reads as it did. -/
def keyFewerTouchTheSameUptoRow : OpenClaim := { program := "ytifmgngmkajahaa", sum := "ab3cfd188a982f062513e5201f804483f590b096713e67d2f2ef053e24418c9f", func := "headend/headendlaw8.KeyFewerTouchTheSame", spec := "keyFewerTouchTheSame", unfollowed := true, recurses := true, apart := false, narrowed := true }
def KeyFewerTouchTheSameUptoSaid : Prop := keyFewerTouchTheSameUptoRow.holds Try.pinned (OpenSpec.upto keyFewerTouchTheSameSpec)

/-- 'headendlaw8.KeyLeasesMatchSpec', WHERE WHAT IT READS IS OF BULK AT MOST 1048576: true; the input reads as it did. -/
def keyLeasesMatchSpecUptoRow : OpenClaim := { program := "ytifmgngmkajahaa", sum := "ab3cfd188a982f062513e5201f804483f590b096713e67d2f2ef053e24418c9f", func := "headend/headendlaw8.KeyLeasesMatchSpec", spec := "keyLeasesMatchSpec", unfollowed := true, recurses := true, apart := false, narrowed := true }
def KeyLeasesMatchSpecUptoSaid : Prop := keyLeasesMatchSpecUptoRow.holds Try.pinned (OpenSpec.upto keyLeasesMatchSpecSpec)

/-- 'headendlaw8.KeyProtectsMatchSpec', WHERE WHAT IT READS IS OF BULK AT MOST 1048576: true; the input reads as it did. -/
def keyProtectsMatchSpecUptoRow : OpenClaim := { program := "ytifmgngmkajahaa", sum := "ab3cfd188a982f062513e5201f804483f590b096713e67d2f2ef053e24418c9f", func := "headend/headendlaw8.KeyProtectsMatchSpec", spec := "keyProtectsMatchSpec", unfollowed := true, recurses := true, apart := false, narrowed := true }
def KeyProtectsMatchSpecUptoSaid : Prop := keyProtectsMatchSpecUptoRow.holds Try.pinned (OpenSpec.upto keyProtectsMatchSpecSpec)

/-- 'headendlaw8.KeyLicencesMatchSpec', WHERE WHAT IT READS IS OF BULK AT MOST 1048576: true; the input reads as it did. -/
def keyLicencesMatchSpecUptoRow : OpenClaim := { program := "ytifmgngmkajahaa", sum := "ab3cfd188a982f062513e5201f804483f590b096713e67d2f2ef053e24418c9f", func := "headend/headendlaw8.KeyLicencesMatchSpec", spec := "keyLicencesMatchSpec", unfollowed := true, recurses := true, apart := false, narrowed := true }
def KeyLicencesMatchSpecUptoSaid : Prop := keyLicencesMatchSpecUptoRow.holds Try.pinned (OpenSpec.upto keyLicencesMatchSpecSpec)

/-- 'headendlaw8.KeyUntilIsTheEnd', WHERE WHAT IT READS IS OF BULK AT MOST 1048576: true; the input reads as it did. -/
def keyUntilIsTheEndUptoRow : OpenClaim := { program := "ytifmgngmkajahaa", sum := "ab3cfd188a982f062513e5201f804483f590b096713e67d2f2ef053e24418c9f", func := "headend/headendlaw8.KeyUntilIsTheEnd", spec := "keyUntilIsTheEnd", unfollowed := true, recurses := true, apart := false, narrowed := true }
def KeyUntilIsTheEndUptoSaid : Prop := keyUntilIsTheEndUptoRow.holds Try.pinned (OpenSpec.upto keyUntilIsTheEndSpec)

/-- 'headendlaw8.KeyProtectsComeBack', WHERE WHAT IT READS IS OF BULK AT MOST 1048576: true; the input reads as it did. -/
def keyProtectsComeBackUptoRow : OpenClaim := { program := "ytifmgngmkajahaa", sum := "ab3cfd188a982f062513e5201f804483f590b096713e67d2f2ef053e24418c9f", func := "headend/headendlaw8.KeyProtectsComeBack", spec := "keyProtectsComeBack", unfollowed := true, recurses := true, apart := false, narrowed := true }
def KeyProtectsComeBackUptoSaid : Prop := keyProtectsComeBackUptoRow.holds Try.pinned (OpenSpec.upto keyProtectsComeBackSpec)

end Rows
end Go.Proofs.Ytifmgngmkajahaa
