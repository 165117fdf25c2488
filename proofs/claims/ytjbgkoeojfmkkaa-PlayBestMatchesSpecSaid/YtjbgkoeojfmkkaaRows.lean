/-
  No cell of these rows narrows 'for every input' (looked for: loops, veiled, ifaces, maps, wideKeys, modest, calm, conditions, laid).
  DERIVED. THE GIVEN ROWS OF THIS SEAT. 5 by the template 'for every input the law returns true; each argument reads behind the call as it read before'; 0 by the template 'total and deterministic' (their statements: YtjbgkoeojfmkkaaTotals.lean).
  GIVEN WITH THE SEED: the statements are not yours to turn. If you find one false, say at which input.
  Laid BY PROGRAM, IN A SANDBOX (cutbox-rows.mjs): the forced cells as the released guide's own fill.sh prints them over the translation 68260c9eaa0b0288… (all of the seat's roots in one cut). By AI agents, Wed Nov 11 2026. No macro, syntax, notation, axiom, sorry.
-/
import Derived.Test.YtjbgkoeojfmkkaaChecked
import GoSem.Claim
import GoSem.ClaimJoined
import GoSem.ClaimMapViews
import Derived.JoinedTies
import Derived.KernelRfl
namespace Go.Proofs.Ytjbgkoeojfmkkaa
/- THE CELL 'sum', in the pinned program and in every row, IS THE sha256 OF THE DUMP (.gsa) THAT YtjbgkoeojfmkkaaProg.lean LOADS. Nothing in Lean hashes anything: it is a label: what it is worth is what the hold of that sum in a sandbox is worth. -/
noncomputable def Try.pinned : Pinned := { name := "ytjbgkoeojfmkkaa", sum := "68260c9eaa0b028832373f6c18b6a910367872630b298f070a286464e9f6bbae", checked := Try.checked }
namespace Rows
def none {H : Type} : Left H := { results := [], args := [] }

/-- 'headendlaw11.PlayFasterIsNotLater': WHATEVER THE INPUT: true; the input reads as it did. -/
def playFasterIsNotLaterSpec : ChangeSpec := { name := "playFasterIsNotLater", fn := fun _ => fun
  | [d1, d2, d3, d4, d5] => { results := [.lit (.bool true)], args := [d1, d2, d3, d4, d5] }
  | _ => none }
def playFasterIsNotLaterRow : OpenClaim := { program := "ytjbgkoeojfmkkaa", sum := "68260c9eaa0b028832373f6c18b6a910367872630b298f070a286464e9f6bbae", func := "headend/headendlaw11.PlayFasterIsNotLater", spec := "playFasterIsNotLater", unfollowed := true, recurses := true, apart := false }
def PlayFasterIsNotLaterSaid : Prop := playFasterIsNotLaterRow.holds Try.pinned (OpenSpec.ofChange playFasterIsNotLaterSpec)

/-- ITS FALSE NEIGHBOUR: 'it returns false'. Refute it at one input. -/
def playFasterIsNotLaterWrong : ChangeSpec := { name := "playFasterIsNotLater", fn := fun _ => fun
  | [d1, d2, d3, d4, d5] => { results := [.lit (.bool false)], args := [d1, d2, d3, d4, d5] }
  | _ => none }
def PlayFasterIsNotLaterWrongFalsely : Prop := playFasterIsNotLaterRow.holds Try.pinned (OpenSpec.ofChange playFasterIsNotLaterWrong)

/-- 'headendlaw11.PlayPromisesMatchSpec': WHATEVER THE INPUT: true; the input reads as it did. -/
def playPromisesMatchSpecSpec : ChangeSpec := { name := "playPromisesMatchSpec", fn := fun _ => fun
  | [d1, d2, d3, d4, d5, d6] => { results := [.lit (.bool true)], args := [d1, d2, d3, d4, d5, d6] }
  | _ => none }
def playPromisesMatchSpecRow : OpenClaim := { program := "ytjbgkoeojfmkkaa", sum := "68260c9eaa0b028832373f6c18b6a910367872630b298f070a286464e9f6bbae", func := "headend/headendlaw11.PlayPromisesMatchSpec", spec := "playPromisesMatchSpec", unfollowed := true, recurses := true, apart := false }
def PlayPromisesMatchSpecSaid : Prop := playPromisesMatchSpecRow.holds Try.pinned (OpenSpec.ofChange playPromisesMatchSpecSpec)

/-- ITS FALSE NEIGHBOUR: 'it returns false'. Refute it at one input. -/
def playPromisesMatchSpecWrong : ChangeSpec := { name := "playPromisesMatchSpec", fn := fun _ => fun
  | [d1, d2, d3, d4, d5, d6] => { results := [.lit (.bool false)], args := [d1, d2, d3, d4, d5, d6] }
  | _ => none }
def PlayPromisesMatchSpecWrongFalsely : Prop := playPromisesMatchSpecRow.holds Try.pinned (OpenSpec.ofChange playPromisesMatchSpecWrong)

/-- 'headendlaw11.PlayGivenRunsMatchSpec': WHATEVER THE INPUT: true; the input reads as it did. -/
def playGivenRunsMatchSpecSpec : ChangeSpec := { name := "playGivenRunsMatchSpec", fn := fun _ => fun
  | [d1, d2, d3, d4] => { results := [.lit (.bool true)], args := [d1, d2, d3, d4] }
  | _ => none }
def playGivenRunsMatchSpecRow : OpenClaim := { program := "ytjbgkoeojfmkkaa", sum := "68260c9eaa0b028832373f6c18b6a910367872630b298f070a286464e9f6bbae", func := "headend/headendlaw11.PlayGivenRunsMatchSpec", spec := "playGivenRunsMatchSpec", unfollowed := true, recurses := true, apart := false }
def PlayGivenRunsMatchSpecSaid : Prop := playGivenRunsMatchSpecRow.holds Try.pinned (OpenSpec.ofChange playGivenRunsMatchSpecSpec)

/-- ITS FALSE NEIGHBOUR: 'it returns false'. Refute it at one input. -/
def playGivenRunsMatchSpecWrong : ChangeSpec := { name := "playGivenRunsMatchSpec", fn := fun _ => fun
  | [d1, d2, d3, d4] => { results := [.lit (.bool false)], args := [d1, d2, d3, d4] }
  | _ => none }
def PlayGivenRunsMatchSpecWrongFalsely : Prop := playGivenRunsMatchSpecRow.holds Try.pinned (OpenSpec.ofChange playGivenRunsMatchSpecWrong)

/-- 'headendlaw11.PlayBestMatchesSpec': WHATEVER THE INPUT: true; the input reads as it did. -/
def playBestMatchesSpecSpec : ChangeSpec := { name := "playBestMatchesSpec", fn := fun _ => fun
  | [d1, d2, d3, d4] => { results := [.lit (.bool true)], args := [d1, d2, d3, d4] }
  | _ => none }
def playBestMatchesSpecRow : OpenClaim := { program := "ytjbgkoeojfmkkaa", sum := "68260c9eaa0b028832373f6c18b6a910367872630b298f070a286464e9f6bbae", func := "headend/headendlaw11.PlayBestMatchesSpec", spec := "playBestMatchesSpec", unfollowed := true, recurses := true, apart := false }
def PlayBestMatchesSpecSaid : Prop := playBestMatchesSpecRow.holds Try.pinned (OpenSpec.ofChange playBestMatchesSpecSpec)

/-- ITS FALSE NEIGHBOUR: 'it returns false'. Refute it at one input. -/
def playBestMatchesSpecWrong : ChangeSpec := { name := "playBestMatchesSpec", fn := fun _ => fun
  | [d1, d2, d3, d4] => { results := [.lit (.bool false)], args := [d1, d2, d3, d4] }
  | _ => none }
def PlayBestMatchesSpecWrongFalsely : Prop := playBestMatchesSpecRow.holds Try.pinned (OpenSpec.ofChange playBestMatchesSpecWrong)

/-- 'headendlaw11.PlaySureNeverStalls': WHATEVER THE INPUT: true; the input reads as it did. -/
def playSureNeverStallsSpec : ChangeSpec := { name := "playSureNeverStalls", fn := fun _ => fun
  | [d1, d2, d3, d4, d5] => { results := [.lit (.bool true)], args := [d1, d2, d3, d4, d5] }
  | _ => none }
def playSureNeverStallsRow : OpenClaim := { program := "ytjbgkoeojfmkkaa", sum := "68260c9eaa0b028832373f6c18b6a910367872630b298f070a286464e9f6bbae", func := "headend/headendlaw11.PlaySureNeverStalls", spec := "playSureNeverStalls", unfollowed := true, recurses := true, apart := false }
def PlaySureNeverStallsSaid : Prop := playSureNeverStallsRow.holds Try.pinned (OpenSpec.ofChange playSureNeverStallsSpec)

/-- ITS FALSE NEIGHBOUR: 'it returns false'. Refute it at one input. -/
def playSureNeverStallsWrong : ChangeSpec := { name := "playSureNeverStalls", fn := fun _ => fun
  | [d1, d2, d3, d4, d5] => { results := [.lit (.bool false)], args := [d1, d2, d3, d4, d5] }
  | _ => none }
def PlaySureNeverStallsWrongFalsely : Prop := playSureNeverStallsRow.holds Try.pinned (OpenSpec.ofChange playSureNeverStallsWrong)

/- THE SECOND FORM. 'bulk': how many values and letters a reading holds, each counted each time it is reached (what is shared counts as often as it is met; a slice's spare places count too). A statement '..UptoSaid' is the law's where the arguments, and the package variables that the reading takes, are together of bulk at most 1048576: NARROWER than '..Said'. Prove '..Said' where nothing that the law and all that it calls make is longer than what came in: it says more and counts as full. Else prove '..UptoSaid'. A law counts once. -/
mutual
def uptoBulk {H : Type} : DataW H → Nat
  | .lit (.string bytes) => bytes.length + 1
  | .lit _ => 1
  | .nil => 1
  | .ptr d => uptoBulk d + 1
  | .slice elems spare => uptoBulkAll elems + uptoBulkAll spare + 1
  | .agg parts => uptoBulkAll parts + 1
  | .iface _ d => uptoBulk d + 1
  | .map entries => uptoBulkEntries entries + 1
  | .held _ => 1
def uptoBulkAll {H : Type} : List (DataW H) → Nat
  | [] => 0
  | d :: r => uptoBulk d + uptoBulkAll r
def uptoBulkEntries {H : Type} : List (Lit × DataW H) → Nat
  | [] => 0
  | x :: r => uptoBulkEntry x + uptoBulkEntries r
def uptoBulkEntry {H : Type} : Lit × DataW H → Nat
  | (.string bytes, d) => bytes.length + uptoBulk d + 1
  | (_, d) => uptoBulk d + 1
 end
def uptoSmall : (H : Type) → List (DataW H) → Bool := fun _ ds => decide (uptoBulkAll ds ≤ 1048576)
def OpenSpec.upto (s : _root_.Go.ChangeSpec) : _root_.Go.OpenSpec := { _root_.Go.OpenSpec.ofChange s with cond := some uptoSmall }

/-- 'headendlaw11.PlayFasterIsNotLater', WHERE WHAT IT READS IS OF BULK AT MOST 1048576: true; the input reads as it did. -/
def playFasterIsNotLaterUptoRow : OpenClaim := { program := "ytjbgkoeojfmkkaa", sum := "68260c9eaa0b028832373f6c18b6a910367872630b298f070a286464e9f6bbae", func := "headend/headendlaw11.PlayFasterIsNotLater", spec := "playFasterIsNotLater", unfollowed := true, recurses := true, apart := false, narrowed := true }
def PlayFasterIsNotLaterUptoSaid : Prop := playFasterIsNotLaterUptoRow.holds Try.pinned (OpenSpec.upto playFasterIsNotLaterSpec)

/-- 'headendlaw11.PlayPromisesMatchSpec', WHERE WHAT IT READS IS OF BULK AT MOST 1048576: true; the input reads as it did. -/
def playPromisesMatchSpecUptoRow : OpenClaim := { program := "ytjbgkoeojfmkkaa", sum := "68260c9eaa0b028832373f6c18b6a910367872630b298f070a286464e9f6bbae", func := "headend/headendlaw11.PlayPromisesMatchSpec", spec := "playPromisesMatchSpec", unfollowed := true, recurses := true, apart := false, narrowed := true }
def PlayPromisesMatchSpecUptoSaid : Prop := playPromisesMatchSpecUptoRow.holds Try.pinned (OpenSpec.upto playPromisesMatchSpecSpec)

/-- 'headendlaw11.PlayGivenRunsMatchSpec', WHERE WHAT IT READS IS OF BULK AT MOST 1048576: true; the input reads as it did. -/
def playGivenRunsMatchSpecUptoRow : OpenClaim := { program := "ytjbgkoeojfmkkaa", sum := "68260c9eaa0b028832373f6c18b6a910367872630b298f070a286464e9f6bbae", func := "headend/headendlaw11.PlayGivenRunsMatchSpec", spec := "playGivenRunsMatchSpec", unfollowed := true, recurses := true, apart := false, narrowed := true }
def PlayGivenRunsMatchSpecUptoSaid : Prop := playGivenRunsMatchSpecUptoRow.holds Try.pinned (OpenSpec.upto playGivenRunsMatchSpecSpec)

/-- 'headendlaw11.PlayBestMatchesSpec', WHERE WHAT IT READS IS OF BULK AT MOST 1048576: true; the input reads as it did. -/
def playBestMatchesSpecUptoRow : OpenClaim := { program := "ytjbgkoeojfmkkaa", sum := "68260c9eaa0b028832373f6c18b6a910367872630b298f070a286464e9f6bbae", func := "headend/headendlaw11.PlayBestMatchesSpec", spec := "playBestMatchesSpec", unfollowed := true, recurses := true, apart := false, narrowed := true }
def PlayBestMatchesSpecUptoSaid : Prop := playBestMatchesSpecUptoRow.holds Try.pinned (OpenSpec.upto playBestMatchesSpecSpec)

/-- 'headendlaw11.PlaySureNeverStalls', WHERE WHAT IT READS IS OF BULK AT MOST 1048576: true; the input reads as it did. -/
def playSureNeverStallsUptoRow : OpenClaim := { program := "ytjbgkoeojfmkkaa", sum := "68260c9eaa0b028832373f6c18b6a910367872630b298f070a286464e9f6bbae", func := "headend/headendlaw11.PlaySureNeverStalls", spec := "playSureNeverStalls", unfollowed := true, recurses := true, apart := false, narrowed := true }
def PlaySureNeverStallsUptoSaid : Prop := playSureNeverStallsUptoRow.holds Try.pinned (OpenSpec.upto playSureNeverStallsSpec)

end Rows
end Go.Proofs.Ytjbgkoeojfmkkaa
