/-
  No cell of these rows narrows 'for every input' (looked for: loops, veiled, ifaces, maps, wideKeys, modest, calm, conditions, laid).
  DERIVED. THE GIVEN ROWS OF THIS SEAT. 4 by the template 'for every input the law returns true; each argument reads behind the call as it read before'; 0 by the template 'total and deterministic' (their statements: YtfpmjaeehhegcaaTotals.lean).
  GIVEN WITH THE SEED: the statements are not yours to turn. If you find one false, say at which input.
  Laid BY PROGRAM, IN A SANDBOX (cutbox-rows.mjs): the forced cells as the released guide's own fill.sh prints them over the translation a3bde0e2136b92ba… (all of the seat's roots in one cut). By AI agents, Wed Nov 11 2026. No macro, syntax, notation, axiom, sorry.
-/
import Derived.Test.YtfpmjaeehhegcaaChecked
import GoSem.Claim
import GoSem.ClaimJoined
import GoSem.ClaimMapViews
import Derived.JoinedTies
import Derived.KernelRfl
namespace Go.Proofs.Ytfpmjaeehhegcaa
/- THE CELL 'sum', in the pinned program and in every row, IS THE sha256 OF THE DUMP (.gsa) THAT YtfpmjaeehhegcaaProg.lean LOADS. Nothing in Lean hashes anything: it is a label: what it is worth is what the hold of that sum in a sandbox is worth. -/
noncomputable def Try.pinned : Pinned := { name := "ytfpmjaeehhegcaa", sum := "a3bde0e2136b92baeebb8c340f800ac583bd9f2ae656ce787d04b223e501e8ba", checked := Try.checked }
namespace Rows
def none {H : Type} : Left H := { results := [], args := [] }

/-- 'headendlaw8.KeyLeasesAreFew': WHATEVER THE INPUT: true; the input reads as it did. -/
def keyLeasesAreFewSpec : ChangeSpec := { name := "keyLeasesAreFew", fn := fun _ => fun
  | [d1, d2, d3] => { results := [.lit (.bool true)], args := [d1, d2, d3] }
  | _ => none }
def keyLeasesAreFewRow : OpenClaim := { program := "ytfpmjaeehhegcaa", sum := "a3bde0e2136b92baeebb8c340f800ac583bd9f2ae656ce787d04b223e501e8ba", func := "headend/headendlaw8.KeyLeasesAreFew", spec := "keyLeasesAreFew", unfollowed := true, recurses := true, apart := false }
def KeyLeasesAreFewSaid : Prop := keyLeasesAreFewRow.holds Try.pinned (OpenSpec.ofChange keyLeasesAreFewSpec)

/-- ITS FALSE NEIGHBOUR: 'it returns false'. Refute it at one input. -/
def keyLeasesAreFewWrong : ChangeSpec := { name := "keyLeasesAreFew", fn := fun _ => fun
  | [d1, d2, d3] => { results := [.lit (.bool false)], args := [d1, d2, d3] }
  | _ => none }
def KeyLeasesAreFewWrongFalsely : Prop := keyLeasesAreFewRow.holds Try.pinned (OpenSpec.ofChange keyLeasesAreFewWrong)

/-- 'headendlaw8.KeyLeasesMatchSpec': WHATEVER THE INPUT: true; the input reads as it did. -/
def keyLeasesMatchSpecSpec : ChangeSpec := { name := "keyLeasesMatchSpec", fn := fun _ => fun
  | [d1, d2, d3, d4] => { results := [.lit (.bool true)], args := [d1, d2, d3, d4] }
  | _ => none }
def keyLeasesMatchSpecRow : OpenClaim := { program := "ytfpmjaeehhegcaa", sum := "a3bde0e2136b92baeebb8c340f800ac583bd9f2ae656ce787d04b223e501e8ba", func := "headend/headendlaw8.KeyLeasesMatchSpec", spec := "keyLeasesMatchSpec", unfollowed := true, recurses := true, apart := false }
def KeyLeasesMatchSpecSaid : Prop := keyLeasesMatchSpecRow.holds Try.pinned (OpenSpec.ofChange keyLeasesMatchSpecSpec)

/-- ITS FALSE NEIGHBOUR: 'it returns false'. Refute it at one input. -/
def keyLeasesMatchSpecWrong : ChangeSpec := { name := "keyLeasesMatchSpec", fn := fun _ => fun
  | [d1, d2, d3, d4] => { results := [.lit (.bool false)], args := [d1, d2, d3, d4] }
  | _ => none }
def KeyLeasesMatchSpecWrongFalsely : Prop := keyLeasesMatchSpecRow.holds Try.pinned (OpenSpec.ofChange keyLeasesMatchSpecWrong)

/-- 'headendlaw8.KeyLicencesMatchSpec': WHATEVER THE INPUT: true; the input reads as it did. -/
def keyLicencesMatchSpecSpec : ChangeSpec := { name := "keyLicencesMatchSpec", fn := fun _ => fun
  | [d1, d2, d3, d4] => { results := [.lit (.bool true)], args := [d1, d2, d3, d4] }
  | _ => none }
def keyLicencesMatchSpecRow : OpenClaim := { program := "ytfpmjaeehhegcaa", sum := "a3bde0e2136b92baeebb8c340f800ac583bd9f2ae656ce787d04b223e501e8ba", func := "headend/headendlaw8.KeyLicencesMatchSpec", spec := "keyLicencesMatchSpec", unfollowed := true, recurses := true, apart := false }
def KeyLicencesMatchSpecSaid : Prop := keyLicencesMatchSpecRow.holds Try.pinned (OpenSpec.ofChange keyLicencesMatchSpecSpec)

/-- ITS FALSE NEIGHBOUR: 'it returns false'. Refute it at one input. -/
def keyLicencesMatchSpecWrong : ChangeSpec := { name := "keyLicencesMatchSpec", fn := fun _ => fun
  | [d1, d2, d3, d4] => { results := [.lit (.bool false)], args := [d1, d2, d3, d4] }
  | _ => none }
def KeyLicencesMatchSpecWrongFalsely : Prop := keyLicencesMatchSpecRow.holds Try.pinned (OpenSpec.ofChange keyLicencesMatchSpecWrong)

/-- 'headendlaw8.KeyUntilIsTheEnd': WHATEVER THE INPUT: true; the input reads as it did. -/
def keyUntilIsTheEndSpec : ChangeSpec := { name := "keyUntilIsTheEnd", fn := fun _ => fun
  | [d1, d2, d3, d4, d5] => { results := [.lit (.bool true)], args := [d1, d2, d3, d4, d5] }
  | _ => none }
def keyUntilIsTheEndRow : OpenClaim := { program := "ytfpmjaeehhegcaa", sum := "a3bde0e2136b92baeebb8c340f800ac583bd9f2ae656ce787d04b223e501e8ba", func := "headend/headendlaw8.KeyUntilIsTheEnd", spec := "keyUntilIsTheEnd", unfollowed := true, recurses := true, apart := false }
def KeyUntilIsTheEndSaid : Prop := keyUntilIsTheEndRow.holds Try.pinned (OpenSpec.ofChange keyUntilIsTheEndSpec)

/-- ITS FALSE NEIGHBOUR: 'it returns false'. Refute it at one input. -/
def keyUntilIsTheEndWrong : ChangeSpec := { name := "keyUntilIsTheEnd", fn := fun _ => fun
  | [d1, d2, d3, d4, d5] => { results := [.lit (.bool false)], args := [d1, d2, d3, d4, d5] }
  | _ => none }
def KeyUntilIsTheEndWrongFalsely : Prop := keyUntilIsTheEndRow.holds Try.pinned (OpenSpec.ofChange keyUntilIsTheEndWrong)

/- THE SECOND FORM. 'bulk': how many values and letters a reading holds, each counted each time it is reached (what is shared counts as often as it is met; a slice's spare places count too). A statement '..UptoSaid' is the law's where the arguments, and the package variables that the reading takes, are together of bulk at most 1048576: NARROWER than '..Said'. Prove '..Said' where nothing that the law and all that it calls make is longer than what came in: it says more and counts as full. Else prove '..UptoSaid'. A law counts once. -/
mutual
def uptoBulk {H : Type} : DataW H → Nat
  | .lit (.string bytes) => bytes.length + 1
  | .lit _ => 1
  | .nil => 1
  | .ptr d => uptoBulk d + 1
  | .slice elems spare => uptoBulkAll elems + uptoBulkAll spare + 1
  | .agg parts => uptoBulkAll parts + 1
  | .iface _ d => uptoBulk d + 1
  | .map entries => uptoBulkEntries entries + 1
  | .held _ => 1
def uptoBulkAll {H : Type} : List (DataW H) → Nat
  | [] => 0
  | d :: r => uptoBulk d + uptoBulkAll r
def uptoBulkEntries {H : Type} : List (Lit × DataW H) → Nat
  | [] => 0
  | x :: r => uptoBulkEntry x + uptoBulkEntries r
def uptoBulkEntry {H : Type} : Lit × DataW H → Nat
  | (.string bytes, d) => bytes.length + uptoBulk d + 1
  | (_, d) => uptoBulk d + 1
 end
def uptoSmall : (H : Type) → List (DataW H) → Bool := fun _ ds => decide (uptoBulkAll ds ≤ 1048576)
def OpenSpec.upto (s : _root_.Go.ChangeSpec) : _root_.Go.OpenSpec := { _root_.Go.OpenSpec.ofChange s with cond := some uptoSmall }

/-- 'headendlaw8.KeyLeasesAreFew', WHERE WHAT IT READS IS OF BULK AT MOST 1048576: true; the input reads as it did. -/
def keyLeasesAreFewUptoRow : OpenClaim := { program := "ytfpmjaeehhegcaa", sum := "a3bde0e2136b92baeebb8c340f800ac583bd9f2ae656ce787d04b223e501e8ba", func := "headend/headendlaw8.KeyLeasesAreFew", spec := "keyLeasesAreFew", unfollowed := true, recurses := true, apart := false, narrowed := true }
def KeyLeasesAreFewUptoSaid : Prop := keyLeasesAreFewUptoRow.holds Try.pinned (OpenSpec.upto keyLeasesAreFewSpec)

/-- 'headendlaw8.KeyLeasesMatchSpec', WHERE WHAT IT READS IS OF BULK AT MOST 1048576: true; the input reads as it did. -/
def keyLeasesMatchSpecUptoRow : OpenClaim := { program := "ytfpmjaeehhegcaa", sum := "a3bde0e2136b92baeebb8c340f800ac583bd9f2ae656ce787d04b223e501e8ba", func := "headend/headendlaw8.KeyLeasesMatchSpec", spec := "keyLeasesMatchSpec", unfollowed := true, recurses := true, apart := false, narrowed := true }
def KeyLeasesMatchSpecUptoSaid : Prop := keyLeasesMatchSpecUptoRow.holds Try.pinned (OpenSpec.upto keyLeasesMatchSpecSpec)

/-- 'headendlaw8.KeyLicencesMatchSpec', WHERE WHAT IT READS IS OF BULK AT MOST 1048576: true; the input reads as it did. -/
def keyLicencesMatchSpecUptoRow : OpenClaim := { program := "ytfpmjaeehhegcaa", sum := "a3bde0e2136b92baeebb8c340f800ac583bd9f2ae656ce787d04b223e501e8ba", func := "headend/headendlaw8.KeyLicencesMatchSpec", spec := "keyLicencesMatchSpec", unfollowed := true, recurses := true, apart := false, narrowed := true }
def KeyLicencesMatchSpecUptoSaid : Prop := keyLicencesMatchSpecUptoRow.holds Try.pinned (OpenSpec.upto keyLicencesMatchSpecSpec)

/-- 'headendlaw8.KeyUntilIsTheEnd', WHERE WHAT IT READS IS OF BULK AT MOST 1048576: true; the input reads as it did. -/
def keyUntilIsTheEndUptoRow : OpenClaim := { program := "ytfpmjaeehhegcaa", sum := "a3bde0e2136b92baeebb8c340f800ac583bd9f2ae656ce787d04b223e501e8ba", func := "headend/headendlaw8.KeyUntilIsTheEnd", spec := "keyUntilIsTheEnd", unfollowed := true, recurses := true, apart := false, narrowed := true }
def KeyUntilIsTheEndUptoSaid : Prop := keyUntilIsTheEndUptoRow.holds Try.pinned (OpenSpec.upto keyUntilIsTheEndSpec)

end Rows
end Go.Proofs.Ytfpmjaeehhegcaa
