/-
  No cell of these rows narrows 'for every input' (looked for: loops, veiled, ifaces, maps, wideKeys, modest, calm, conditions, laid).
  DERIVED. THE GIVEN ROWS OF THIS SEAT. 15 by the template 'for every input the law returns true; each argument reads behind the call as it read before'; 0 by the template 'total and deterministic' (their statements: YtkedjmepfcchoaaTotals.lean).
  GIVEN WITH THE SEED: the statements are not yours to turn. If you find one false, say at which input.
  Laid BY PROGRAM, IN A SANDBOX (cutbox-rows.mjs): the forced cells as the released guide's own fill.sh prints them over the translation 042c80869d89c9f5… (all of the seat's roots in one cut). By AI agents, Wed Nov 11 2026. No macro, syntax, notation, axiom, sorry.
-/
import Derived.Test.YtkedjmepfcchoaaChecked
import GoSem.Claim
import GoSem.ClaimJoined
import GoSem.ClaimMapViews
import Derived.JoinedTies
import Derived.KernelRfl
namespace Go.Proofs.Ytkedjmepfcchoaa
/- THE CELL 'sum', in the pinned program and in every row, IS THE sha256 OF THE DUMP (.gsa) THAT YtkedjmepfcchoaaProg.lean LOADS. Nothing in Lean hashes anything: it is a label: what it is worth is what the hold of that sum in a sandbox is worth. -/
noncomputable def Try.pinned : Pinned := { name := "ytkedjmepfcchoaa", sum := "042c80869d89c9f516338a0af321261f3f2afd1c349bccee4e3e494ec845e141", checked := Try.checked }
namespace Rows
def none {H : Type} : Left H := { results := [], args := [] }

/-- 'headendlaw11.PlayFilmsMatchSpec': WHATEVER THE INPUT: true; the input reads as it did. -/
def playFilmsMatchSpecSpec : ChangeSpec := { name := "playFilmsMatchSpec", fn := fun _ => fun
  | [d1, d2, d3] => { results := [.lit (.bool true)], args := [d1, d2, d3] }
  | _ => none }
def playFilmsMatchSpecRow : OpenClaim := { program := "ytkedjmepfcchoaa", sum := "042c80869d89c9f516338a0af321261f3f2afd1c349bccee4e3e494ec845e141", func := "headend/headendlaw11.PlayFilmsMatchSpec", spec := "playFilmsMatchSpec", unfollowed := true, recurses := true, apart := false }
def PlayFilmsMatchSpecSaid : Prop := playFilmsMatchSpecRow.holds Try.pinned (OpenSpec.ofChange playFilmsMatchSpecSpec)

/-- ITS FALSE NEIGHBOUR: 'it returns false'. Refute it at one input. -/
def playFilmsMatchSpecWrong : ChangeSpec := { name := "playFilmsMatchSpec", fn := fun _ => fun
  | [d1, d2, d3] => { results := [.lit (.bool false)], args := [d1, d2, d3] }
  | _ => none }
def PlayFilmsMatchSpecWrongFalsely : Prop := playFilmsMatchSpecRow.holds Try.pinned (OpenSpec.ofChange playFilmsMatchSpecWrong)

/-- 'headendtop.TopMeansAgree': WHATEVER THE INPUT: true; the input reads as it did. -/
def topMeansAgreeSpec : ChangeSpec := { name := "topMeansAgree", fn := fun _ => fun
  | [d] => { results := [.lit (.bool true)], args := [d] }
  | _ => none }
def topMeansAgreeRow : OpenClaim := { program := "ytkedjmepfcchoaa", sum := "042c80869d89c9f516338a0af321261f3f2afd1c349bccee4e3e494ec845e141", func := "headend/headendtop.TopMeansAgree", spec := "topMeansAgree", unfollowed := true, recurses := true, apart := false }
def TopMeansAgreeSaid : Prop := topMeansAgreeRow.holds Try.pinned (OpenSpec.ofChange topMeansAgreeSpec)

/-- ITS FALSE NEIGHBOUR: 'it returns false'. Refute it at one input. -/
def topMeansAgreeWrong : ChangeSpec := { name := "topMeansAgree", fn := fun _ => fun
  | [d] => { results := [.lit (.bool false)], args := [d] }
  | _ => none }
def TopMeansAgreeWrongFalsely : Prop := topMeansAgreeRow.holds Try.pinned (OpenSpec.ofChange topMeansAgreeWrong)

/-- 'headendlaw11.PlaySessionsMatchSpec': WHATEVER THE INPUT: true; the input reads as it did. -/
def playSessionsMatchSpecSpec : ChangeSpec := { name := "playSessionsMatchSpec", fn := fun _ => fun
  | [d1, d2, d3, d4] => { results := [.lit (.bool true)], args := [d1, d2, d3, d4] }
  | _ => none }
def playSessionsMatchSpecRow : OpenClaim := { program := "ytkedjmepfcchoaa", sum := "042c80869d89c9f516338a0af321261f3f2afd1c349bccee4e3e494ec845e141", func := "headend/headendlaw11.PlaySessionsMatchSpec", spec := "playSessionsMatchSpec", unfollowed := true, recurses := true, apart := false }
def PlaySessionsMatchSpecSaid : Prop := playSessionsMatchSpecRow.holds Try.pinned (OpenSpec.ofChange playSessionsMatchSpecSpec)

/-- ITS FALSE NEIGHBOUR: 'it returns false'. Refute it at one input. -/
def playSessionsMatchSpecWrong : ChangeSpec := { name := "playSessionsMatchSpec", fn := fun _ => fun
  | [d1, d2, d3, d4] => { results := [.lit (.bool false)], args := [d1, d2, d3, d4] }
  | _ => none }
def PlaySessionsMatchSpecWrongFalsely : Prop := playSessionsMatchSpecRow.holds Try.pinned (OpenSpec.ofChange playSessionsMatchSpecWrong)

/-- 'headendlaw11.PlayFasterIsNotLater': WHATEVER THE INPUT: true; the input reads as it did. -/
def playFasterIsNotLaterSpec : ChangeSpec := { name := "playFasterIsNotLater", fn := fun _ => fun
  | [d1, d2, d3, d4, d5] => { results := [.lit (.bool true)], args := [d1, d2, d3, d4, d5] }
  | _ => none }
def playFasterIsNotLaterRow : OpenClaim := { program := "ytkedjmepfcchoaa", sum := "042c80869d89c9f516338a0af321261f3f2afd1c349bccee4e3e494ec845e141", func := "headend/headendlaw11.PlayFasterIsNotLater", spec := "playFasterIsNotLater", unfollowed := true, recurses := true, apart := false }
def PlayFasterIsNotLaterSaid : Prop := playFasterIsNotLaterRow.holds Try.pinned (OpenSpec.ofChange playFasterIsNotLaterSpec)

/-- ITS FALSE NEIGHBOUR: 'it returns false'. Refute it at one input. -/
def playFasterIsNotLaterWrong : ChangeSpec := { name := "playFasterIsNotLater", fn := fun _ => fun
  | [d1, d2, d3, d4, d5] => { results := [.lit (.bool false)], args := [d1, d2, d3, d4, d5] }
  | _ => none }
def PlayFasterIsNotLaterWrongFalsely : Prop := playFasterIsNotLaterRow.holds Try.pinned (OpenSpec.ofChange playFasterIsNotLaterWrong)

/-- 'headendlaw11.PlayPromisesMatchSpec': WHATEVER THE INPUT: true; the input reads as it did. -/
def playPromisesMatchSpecSpec : ChangeSpec := { name := "playPromisesMatchSpec", fn := fun _ => fun
  | [d1, d2, d3, d4, d5, d6] => { results := [.lit (.bool true)], args := [d1, d2, d3, d4, d5, d6] }
  | _ => none }
def playPromisesMatchSpecRow : OpenClaim := { program := "ytkedjmepfcchoaa", sum := "042c80869d89c9f516338a0af321261f3f2afd1c349bccee4e3e494ec845e141", func := "headend/headendlaw11.PlayPromisesMatchSpec", spec := "playPromisesMatchSpec", unfollowed := true, recurses := true, apart := false }
def PlayPromisesMatchSpecSaid : Prop := playPromisesMatchSpecRow.holds Try.pinned (OpenSpec.ofChange playPromisesMatchSpecSpec)

/-- ITS FALSE NEIGHBOUR: 'it returns false'. Refute it at one input. -/
def playPromisesMatchSpecWrong : ChangeSpec := { name := "playPromisesMatchSpec", fn := fun _ => fun
  | [d1, d2, d3, d4, d5, d6] => { results := [.lit (.bool false)], args := [d1, d2, d3, d4, d5, d6] }
  | _ => none }
def PlayPromisesMatchSpecWrongFalsely : Prop := playPromisesMatchSpecRow.holds Try.pinned (OpenSpec.ofChange playPromisesMatchSpecWrong)

/-- 'headendlaw11.PlayGivenRunsMatchSpec': WHATEVER THE INPUT: true; the input reads as it did. -/
def playGivenRunsMatchSpecSpec : ChangeSpec := { name := "playGivenRunsMatchSpec", fn := fun _ => fun
  | [d1, d2, d3, d4] => { results := [.lit (.bool true)], args := [d1, d2, d3, d4] }
  | _ => none }
def playGivenRunsMatchSpecRow : OpenClaim := { program := "ytkedjmepfcchoaa", sum := "042c80869d89c9f516338a0af321261f3f2afd1c349bccee4e3e494ec845e141", func := "headend/headendlaw11.PlayGivenRunsMatchSpec", spec := "playGivenRunsMatchSpec", unfollowed := true, recurses := true, apart := false }
def PlayGivenRunsMatchSpecSaid : Prop := playGivenRunsMatchSpecRow.holds Try.pinned (OpenSpec.ofChange playGivenRunsMatchSpecSpec)

/-- ITS FALSE NEIGHBOUR: 'it returns false'. Refute it at one input. -/
def playGivenRunsMatchSpecWrong : ChangeSpec := { name := "playGivenRunsMatchSpec", fn := fun _ => fun
  | [d1, d2, d3, d4] => { results := [.lit (.bool false)], args := [d1, d2, d3, d4] }
  | _ => none }
def PlayGivenRunsMatchSpecWrongFalsely : Prop := playGivenRunsMatchSpecRow.holds Try.pinned (OpenSpec.ofChange playGivenRunsMatchSpecWrong)

/-- 'headendlaw11.PlayBestMatchesSpec': WHATEVER THE INPUT: true; the input reads as it did. -/
def playBestMatchesSpecSpec : ChangeSpec := { name := "playBestMatchesSpec", fn := fun _ => fun
  | [d1, d2, d3, d4] => { results := [.lit (.bool true)], args := [d1, d2, d3, d4] }
  | _ => none }
def playBestMatchesSpecRow : OpenClaim := { program := "ytkedjmepfcchoaa", sum := "042c80869d89c9f516338a0af321261f3f2afd1c349bccee4e3e494ec845e141", func := "headend/headendlaw11.PlayBestMatchesSpec", spec := "playBestMatchesSpec", unfollowed := true, recurses := true, apart := false }
def PlayBestMatchesSpecSaid : Prop := playBestMatchesSpecRow.holds Try.pinned (OpenSpec.ofChange playBestMatchesSpecSpec)

/-- ITS FALSE NEIGHBOUR: 'it returns false'. Refute it at one input. -/
def playBestMatchesSpecWrong : ChangeSpec := { name := "playBestMatchesSpec", fn := fun _ => fun
  | [d1, d2, d3, d4] => { results := [.lit (.bool false)], args := [d1, d2, d3, d4] }
  | _ => none }
def PlayBestMatchesSpecWrongFalsely : Prop := playBestMatchesSpecRow.holds Try.pinned (OpenSpec.ofChange playBestMatchesSpecWrong)

/-- 'headendlaw11.PlaySureNeverStalls': WHATEVER THE INPUT: true; the input reads as it did. -/
def playSureNeverStallsSpec : ChangeSpec := { name := "playSureNeverStalls", fn := fun _ => fun
  | [d1, d2, d3, d4, d5] => { results := [.lit (.bool true)], args := [d1, d2, d3, d4, d5] }
  | _ => none }
def playSureNeverStallsRow : OpenClaim := { program := "ytkedjmepfcchoaa", sum := "042c80869d89c9f516338a0af321261f3f2afd1c349bccee4e3e494ec845e141", func := "headend/headendlaw11.PlaySureNeverStalls", spec := "playSureNeverStalls", unfollowed := true, recurses := true, apart := false }
def PlaySureNeverStallsSaid : Prop := playSureNeverStallsRow.holds Try.pinned (OpenSpec.ofChange playSureNeverStallsSpec)

/-- ITS FALSE NEIGHBOUR: 'it returns false'. Refute it at one input. -/
def playSureNeverStallsWrong : ChangeSpec := { name := "playSureNeverStalls", fn := fun _ => fun
  | [d1, d2, d3, d4, d5] => { results := [.lit (.bool false)], args := [d1, d2, d3, d4, d5] }
  | _ => none }
def PlaySureNeverStallsWrongFalsely : Prop := playSureNeverStallsRow.holds Try.pinned (OpenSpec.ofChange playSureNeverStallsWrong)

/-- 'headendlaw11.PlayMoreBufferIsNotLess': WHATEVER THE INPUT: true; the input reads as it did. -/
def playMoreBufferIsNotLessSpec : ChangeSpec := { name := "playMoreBufferIsNotLess", fn := fun _ => fun
  | [d1, d2, d3, d4] => { results := [.lit (.bool true)], args := [d1, d2, d3, d4] }
  | _ => none }
def playMoreBufferIsNotLessRow : OpenClaim := { program := "ytkedjmepfcchoaa", sum := "042c80869d89c9f516338a0af321261f3f2afd1c349bccee4e3e494ec845e141", func := "headend/headendlaw11.PlayMoreBufferIsNotLess", spec := "playMoreBufferIsNotLess", inPlace := ["math/bits.Sub64"], unfollowed := true, recurses := true, named := ["math/bits.divideError", "math/bits.overflowError"], apart := false }
def PlayMoreBufferIsNotLessSaid : Prop := playMoreBufferIsNotLessRow.holds Try.pinned (OpenSpec.ofChange playMoreBufferIsNotLessSpec)

/-- ITS FALSE NEIGHBOUR: 'it returns false'. Refute it at one input. -/
def playMoreBufferIsNotLessWrong : ChangeSpec := { name := "playMoreBufferIsNotLess", fn := fun _ => fun
  | [d1, d2, d3, d4] => { results := [.lit (.bool false)], args := [d1, d2, d3, d4] }
  | _ => none }
def PlayMoreBufferIsNotLessWrongFalsely : Prop := playMoreBufferIsNotLessRow.holds Try.pinned (OpenSpec.ofChange playMoreBufferIsNotLessWrong)

/-- 'headendlaw11.PlayChoicesMatchSpec': WHATEVER THE INPUT: true; the input reads as it did. -/
def playChoicesMatchSpecSpec : ChangeSpec := { name := "playChoicesMatchSpec", fn := fun _ => fun
  | [d1, d2, d3, d4] => { results := [.lit (.bool true)], args := [d1, d2, d3, d4] }
  | _ => none }
def playChoicesMatchSpecRow : OpenClaim := { program := "ytkedjmepfcchoaa", sum := "042c80869d89c9f516338a0af321261f3f2afd1c349bccee4e3e494ec845e141", func := "headend/headendlaw11.PlayChoicesMatchSpec", spec := "playChoicesMatchSpec", inPlace := ["math/bits.Sub64"], unfollowed := true, recurses := true, named := ["math/bits.divideError", "math/bits.overflowError"], apart := false }
def PlayChoicesMatchSpecSaid : Prop := playChoicesMatchSpecRow.holds Try.pinned (OpenSpec.ofChange playChoicesMatchSpecSpec)

/-- ITS FALSE NEIGHBOUR: 'it returns false'. Refute it at one input. -/
def playChoicesMatchSpecWrong : ChangeSpec := { name := "playChoicesMatchSpec", fn := fun _ => fun
  | [d1, d2, d3, d4] => { results := [.lit (.bool false)], args := [d1, d2, d3, d4] }
  | _ => none }
def PlayChoicesMatchSpecWrongFalsely : Prop := playChoicesMatchSpecRow.holds Try.pinned (OpenSpec.ofChange playChoicesMatchSpecWrong)

/-- 'headendlaw11.PlayRunsMatchSpec': WHATEVER THE INPUT: true; the input reads as it did. -/
def playRunsMatchSpecSpec : ChangeSpec := { name := "playRunsMatchSpec", fn := fun _ => fun
  | [d1, d2, d3] => { results := [.lit (.bool true)], args := [d1, d2, d3] }
  | _ => none }
def playRunsMatchSpecRow : OpenClaim := { program := "ytkedjmepfcchoaa", sum := "042c80869d89c9f516338a0af321261f3f2afd1c349bccee4e3e494ec845e141", func := "headend/headendlaw11.PlayRunsMatchSpec", spec := "playRunsMatchSpec", inPlace := ["math/bits.Sub64"], unfollowed := true, recurses := true, named := ["math/bits.divideError", "math/bits.overflowError"], apart := false }
def PlayRunsMatchSpecSaid : Prop := playRunsMatchSpecRow.holds Try.pinned (OpenSpec.ofChange playRunsMatchSpecSpec)

/-- ITS FALSE NEIGHBOUR: 'it returns false'. Refute it at one input. -/
def playRunsMatchSpecWrong : ChangeSpec := { name := "playRunsMatchSpec", fn := fun _ => fun
  | [d1, d2, d3] => { results := [.lit (.bool false)], args := [d1, d2, d3] }
  | _ => none }
def PlayRunsMatchSpecWrongFalsely : Prop := playRunsMatchSpecRow.holds Try.pinned (OpenSpec.ofChange playRunsMatchSpecWrong)

/-- 'headendlaw11.PlayKeepsItsBuffer': WHATEVER THE INPUT: true; the input reads as it did. -/
def playKeepsItsBufferSpec : ChangeSpec := { name := "playKeepsItsBuffer", fn := fun _ => fun
  | [d1, d2, d3] => { results := [.lit (.bool true)], args := [d1, d2, d3] }
  | _ => none }
def playKeepsItsBufferRow : OpenClaim := { program := "ytkedjmepfcchoaa", sum := "042c80869d89c9f516338a0af321261f3f2afd1c349bccee4e3e494ec845e141", func := "headend/headendlaw11.PlayKeepsItsBuffer", spec := "playKeepsItsBuffer", inPlace := ["math/bits.Sub64"], unfollowed := true, recurses := true, named := ["math/bits.divideError", "math/bits.overflowError"], apart := false }
def PlayKeepsItsBufferSaid : Prop := playKeepsItsBufferRow.holds Try.pinned (OpenSpec.ofChange playKeepsItsBufferSpec)

/-- ITS FALSE NEIGHBOUR: 'it returns false'. Refute it at one input. -/
def playKeepsItsBufferWrong : ChangeSpec := { name := "playKeepsItsBuffer", fn := fun _ => fun
  | [d1, d2, d3] => { results := [.lit (.bool false)], args := [d1, d2, d3] }
  | _ => none }
def PlayKeepsItsBufferWrongFalsely : Prop := playKeepsItsBufferRow.holds Try.pinned (OpenSpec.ofChange playKeepsItsBufferWrong)

/-- 'headendlaw11.PlayNothingIsPlayedEarly': WHATEVER THE INPUT: true; the input reads as it did. -/
def playNothingIsPlayedEarlySpec : ChangeSpec := { name := "playNothingIsPlayedEarly", fn := fun _ => fun
  | [d1, d2, d3, d4] => { results := [.lit (.bool true)], args := [d1, d2, d3, d4] }
  | _ => none }
def playNothingIsPlayedEarlyRow : OpenClaim := { program := "ytkedjmepfcchoaa", sum := "042c80869d89c9f516338a0af321261f3f2afd1c349bccee4e3e494ec845e141", func := "headend/headendlaw11.PlayNothingIsPlayedEarly", spec := "playNothingIsPlayedEarly", inPlace := ["math/bits.Sub64"], unfollowed := true, recurses := true, named := ["math/bits.divideError", "math/bits.overflowError"], apart := false }
def PlayNothingIsPlayedEarlySaid : Prop := playNothingIsPlayedEarlyRow.holds Try.pinned (OpenSpec.ofChange playNothingIsPlayedEarlySpec)

/-- ITS FALSE NEIGHBOUR: 'it returns false'. Refute it at one input. -/
def playNothingIsPlayedEarlyWrong : ChangeSpec := { name := "playNothingIsPlayedEarly", fn := fun _ => fun
  | [d1, d2, d3, d4] => { results := [.lit (.bool false)], args := [d1, d2, d3, d4] }
  | _ => none }
def PlayNothingIsPlayedEarlyWrongFalsely : Prop := playNothingIsPlayedEarlyRow.holds Try.pinned (OpenSpec.ofChange playNothingIsPlayedEarlyWrong)

/-- 'headendlaw11.PlayRunsAreGiven': WHATEVER THE INPUT: true; the input reads as it did. -/
def playRunsAreGivenSpec : ChangeSpec := { name := "playRunsAreGiven", fn := fun _ => fun
  | [d1, d2, d3] => { results := [.lit (.bool true)], args := [d1, d2, d3] }
  | _ => none }
def playRunsAreGivenRow : OpenClaim := { program := "ytkedjmepfcchoaa", sum := "042c80869d89c9f516338a0af321261f3f2afd1c349bccee4e3e494ec845e141", func := "headend/headendlaw11.PlayRunsAreGiven", spec := "playRunsAreGiven", inPlace := ["math/bits.Sub64"], unfollowed := true, recurses := true, named := ["math/bits.divideError", "math/bits.overflowError"], apart := false }
def PlayRunsAreGivenSaid : Prop := playRunsAreGivenRow.holds Try.pinned (OpenSpec.ofChange playRunsAreGivenSpec)

/-- ITS FALSE NEIGHBOUR: 'it returns false'. Refute it at one input. -/
def playRunsAreGivenWrong : ChangeSpec := { name := "playRunsAreGiven", fn := fun _ => fun
  | [d1, d2, d3] => { results := [.lit (.bool false)], args := [d1, d2, d3] }
  | _ => none }
def PlayRunsAreGivenWrongFalsely : Prop := playRunsAreGivenRow.holds Try.pinned (OpenSpec.ofChange playRunsAreGivenWrong)

/-- 'headendlaw11.PlayNoneIsBetterThanBest': WHATEVER THE INPUT: true; the input reads as it did. -/
def playNoneIsBetterThanBestSpec : ChangeSpec := { name := "playNoneIsBetterThanBest", fn := fun _ => fun
  | [d1, d2, d3, d4, d5] => { results := [.lit (.bool true)], args := [d1, d2, d3, d4, d5] }
  | _ => none }
def playNoneIsBetterThanBestRow : OpenClaim := { program := "ytkedjmepfcchoaa", sum := "042c80869d89c9f516338a0af321261f3f2afd1c349bccee4e3e494ec845e141", func := "headend/headendlaw11.PlayNoneIsBetterThanBest", spec := "playNoneIsBetterThanBest", inPlace := ["math/bits.Sub64"], unfollowed := true, recurses := true, named := ["math/bits.divideError", "math/bits.overflowError"], apart := false }
def PlayNoneIsBetterThanBestSaid : Prop := playNoneIsBetterThanBestRow.holds Try.pinned (OpenSpec.ofChange playNoneIsBetterThanBestSpec)

/-- ITS FALSE NEIGHBOUR: 'it returns false'. Refute it at one input. -/
def playNoneIsBetterThanBestWrong : ChangeSpec := { name := "playNoneIsBetterThanBest", fn := fun _ => fun
  | [d1, d2, d3, d4, d5] => { results := [.lit (.bool false)], args := [d1, d2, d3, d4, d5] }
  | _ => none }
def PlayNoneIsBetterThanBestWrongFalsely : Prop := playNoneIsBetterThanBestRow.holds Try.pinned (OpenSpec.ofChange playNoneIsBetterThanBestWrong)

/- THE SECOND FORM. 'bulk': how many values and letters a reading holds, each counted each time it is reached (what is shared counts as often as it is met; a slice's spare places count too). A statement '..UptoSaid' is the law's where the arguments, and the package variables that the reading takes, are together of bulk at most 1048576: NARROWER than '..Said'. Prove '..Said' where nothing that the law and all that it calls make is longer than what came in: it says more and counts as full. Else prove '..UptoSaid'. A law counts once. -/
mutual
def uptoBulk {H : Type} : DataW H → Nat
  | .lit (.string bytes) => bytes.length + 1
  | .lit _ => 1
  | .nil => 1
  | .ptr d => uptoBulk d + 1
  | .slice elems spare => uptoBulkAll elems + uptoBulkAll spare + 1
  | .agg parts => uptoBulkAll parts + 1
  | .iface _ d => uptoBulk d + 1
  | .map entries => uptoBulkEntries entries + 1
  | .held _ => 1
def uptoBulkAll {H : Type} : List (DataW H) → Nat
  | [] => 0
  | d :: r => uptoBulk d + uptoBulkAll r
def uptoBulkEntries {H : Type} : List (Lit × DataW H) → Nat
  | [] => 0
  | x :: r => uptoBulkEntry x + uptoBulkEntries r
def uptoBulkEntry {H : Type} : Lit × DataW H → Nat
  | (.string bytes, d) => bytes.length + uptoBulk d + 1
  | (_, d) => uptoBulk d + 1
 end
def uptoSmall : (H : Type) → List (DataW H) → Bool := fun _ ds => decide (uptoBulkAll ds ≤ 1048576)
def OpenSpec.upto (s : _root_.Go.ChangeSpec) : _root_.Go.OpenSpec := { _root_.Go.OpenSpec.ofChange s with cond := some uptoSmall }

/-- 'headendlaw11.PlayFilmsMatchSpec', WHERE WHAT IT READS IS OF BULK AT MOST 1048576: true; the input reads as it did. -/
def playFilmsMatchSpecUptoRow : OpenClaim := { program := "ytkedjmepfcchoaa", sum := "042c80869d89c9f516338a0af321261f3f2afd1c349bccee4e3e494ec845e141", func := "headend/headendlaw11.PlayFilmsMatchSpec", spec := "playFilmsMatchSpec", unfollowed := true, recurses := true, apart := false, narrowed := true }
def PlayFilmsMatchSpecUptoSaid : Prop := playFilmsMatchSpecUptoRow.holds Try.pinned (OpenSpec.upto playFilmsMatchSpecSpec)

/-- 'headendtop.TopMeansAgree', WHERE WHAT IT READS IS OF BULK AT MOST 1048576: true; the input reads as it did. -/
def topMeansAgreeUptoRow : OpenClaim := { program := "ytkedjmepfcchoaa", sum := "042c80869d89c9f516338a0af321261f3f2afd1c349bccee4e3e494ec845e141", func := "headend/headendtop.TopMeansAgree", spec := "topMeansAgree", unfollowed := true, recurses := true, apart := false, narrowed := true }
def TopMeansAgreeUptoSaid : Prop := topMeansAgreeUptoRow.holds Try.pinned (OpenSpec.upto topMeansAgreeSpec)

/-- 'headendlaw11.PlaySessionsMatchSpec', WHERE WHAT IT READS IS OF BULK AT MOST 1048576: true; the input reads as it did. -/
def playSessionsMatchSpecUptoRow : OpenClaim := { program := "ytkedjmepfcchoaa", sum := "042c80869d89c9f516338a0af321261f3f2afd1c349bccee4e3e494ec845e141", func := "headend/headendlaw11.PlaySessionsMatchSpec", spec := "playSessionsMatchSpec", unfollowed := true, recurses := true, apart := false, narrowed := true }
def PlaySessionsMatchSpecUptoSaid : Prop := playSessionsMatchSpecUptoRow.holds Try.pinned (OpenSpec.upto playSessionsMatchSpecSpec)

/-- 'headendlaw11.PlayFasterIsNotLater', WHERE WHAT IT READS IS OF BULK AT MOST 1048576: true; the input reads as it did. -/
def playFasterIsNotLaterUptoRow : OpenClaim := { program := "ytkedjmepfcchoaa", sum := "042c80869d89c9f516338a0af321261f3f2afd1c349bccee4e3e494ec845e141", func := "headend/headendlaw11.PlayFasterIsNotLater", spec := "playFasterIsNotLater", unfollowed := true, recurses := true, apart := false, narrowed := true }
def PlayFasterIsNotLaterUptoSaid : Prop := playFasterIsNotLaterUptoRow.holds Try.pinned (OpenSpec.upto playFasterIsNotLaterSpec)

/-- 'headendlaw11.PlayPromisesMatchSpec', WHERE WHAT IT READS IS OF BULK AT MOST 1048576: true; the input reads as it did. -/
def playPromisesMatchSpecUptoRow : OpenClaim := { program := "ytkedjmepfcchoaa", sum := "042c80869d89c9f516338a0af321261f3f2afd1c349bccee4e3e494ec845e141", func := "headend/headendlaw11.PlayPromisesMatchSpec", spec := "playPromisesMatchSpec", unfollowed := true, recurses := true, apart := false, narrowed := true }
def PlayPromisesMatchSpecUptoSaid : Prop := playPromisesMatchSpecUptoRow.holds Try.pinned (OpenSpec.upto playPromisesMatchSpecSpec)

/-- 'headendlaw11.PlayGivenRunsMatchSpec', WHERE WHAT IT READS IS OF BULK AT MOST 1048576: true; the input reads as it did. -/
def playGivenRunsMatchSpecUptoRow : OpenClaim := { program := "ytkedjmepfcchoaa", sum := "042c80869d89c9f516338a0af321261f3f2afd1c349bccee4e3e494ec845e141", func := "headend/headendlaw11.PlayGivenRunsMatchSpec", spec := "playGivenRunsMatchSpec", unfollowed := true, recurses := true, apart := false, narrowed := true }
def PlayGivenRunsMatchSpecUptoSaid : Prop := playGivenRunsMatchSpecUptoRow.holds Try.pinned (OpenSpec.upto playGivenRunsMatchSpecSpec)

/-- 'headendlaw11.PlayBestMatchesSpec', WHERE WHAT IT READS IS OF BULK AT MOST 1048576: true; the input reads as it did. -/
def playBestMatchesSpecUptoRow : OpenClaim := { program := "ytkedjmepfcchoaa", sum := "042c80869d89c9f516338a0af321261f3f2afd1c349bccee4e3e494ec845e141", func := "headend/headendlaw11.PlayBestMatchesSpec", spec := "playBestMatchesSpec", unfollowed := true, recurses := true, apart := false, narrowed := true }
def PlayBestMatchesSpecUptoSaid : Prop := playBestMatchesSpecUptoRow.holds Try.pinned (OpenSpec.upto playBestMatchesSpecSpec)

/-- 'headendlaw11.PlaySureNeverStalls', WHERE WHAT IT READS IS OF BULK AT MOST 1048576: true; the input reads as it did. -/
def playSureNeverStallsUptoRow : OpenClaim := { program := "ytkedjmepfcchoaa", sum := "042c80869d89c9f516338a0af321261f3f2afd1c349bccee4e3e494ec845e141", func := "headend/headendlaw11.PlaySureNeverStalls", spec := "playSureNeverStalls", unfollowed := true, recurses := true, apart := false, narrowed := true }
def PlaySureNeverStallsUptoSaid : Prop := playSureNeverStallsUptoRow.holds Try.pinned (OpenSpec.upto playSureNeverStallsSpec)

/-- 'headendlaw11.PlayMoreBufferIsNotLess', WHERE WHAT IT READS IS OF BULK AT MOST 1048576: true; the input reads as it did. -/
def playMoreBufferIsNotLessUptoRow : OpenClaim := { program := "ytkedjmepfcchoaa", sum := "042c80869d89c9f516338a0af321261f3f2afd1c349bccee4e3e494ec845e141", func := "headend/headendlaw11.PlayMoreBufferIsNotLess", spec := "playMoreBufferIsNotLess", inPlace := ["math/bits.Sub64"], unfollowed := true, recurses := true, named := ["math/bits.divideError", "math/bits.overflowError"], apart := false, narrowed := true }
def PlayMoreBufferIsNotLessUptoSaid : Prop := playMoreBufferIsNotLessUptoRow.holds Try.pinned (OpenSpec.upto playMoreBufferIsNotLessSpec)

/-- 'headendlaw11.PlayChoicesMatchSpec', WHERE WHAT IT READS IS OF BULK AT MOST 1048576: true; the input reads as it did. -/
def playChoicesMatchSpecUptoRow : OpenClaim := { program := "ytkedjmepfcchoaa", sum := "042c80869d89c9f516338a0af321261f3f2afd1c349bccee4e3e494ec845e141", func := "headend/headendlaw11.PlayChoicesMatchSpec", spec := "playChoicesMatchSpec", inPlace := ["math/bits.Sub64"], unfollowed := true, recurses := true, named := ["math/bits.divideError", "math/bits.overflowError"], apart := false, narrowed := true }
def PlayChoicesMatchSpecUptoSaid : Prop := playChoicesMatchSpecUptoRow.holds Try.pinned (OpenSpec.upto playChoicesMatchSpecSpec)

/-- 'headendlaw11.PlayRunsMatchSpec', WHERE WHAT IT READS IS OF BULK AT MOST 1048576: true; the input reads as it did. -/
def playRunsMatchSpecUptoRow : OpenClaim := { program := "ytkedjmepfcchoaa", sum := "042c80869d89c9f516338a0af321261f3f2afd1c349bccee4e3e494ec845e141", func := "headend/headendlaw11.PlayRunsMatchSpec", spec := "playRunsMatchSpec", inPlace := ["math/bits.Sub64"], unfollowed := true, recurses := true, named := ["math/bits.divideError", "math/bits.overflowError"], apart := false, narrowed := true }
def PlayRunsMatchSpecUptoSaid : Prop := playRunsMatchSpecUptoRow.holds Try.pinned (OpenSpec.upto playRunsMatchSpecSpec)

/-- 'headendlaw11.PlayKeepsItsBuffer', WHERE WHAT IT READS IS OF BULK AT MOST 1048576: true; the input reads as it did. -/
def playKeepsItsBufferUptoRow : OpenClaim := { program := "ytkedjmepfcchoaa", sum := "042c80869d89c9f516338a0af321261f3f2afd1c349bccee4e3e494ec845e141", func := "headend/headendlaw11.PlayKeepsItsBuffer", spec := "playKeepsItsBuffer", inPlace := ["math/bits.Sub64"], unfollowed := true, recurses := true, named := ["math/bits.divideError", "math/bits.overflowError"], apart := false, narrowed := true }
def PlayKeepsItsBufferUptoSaid : Prop := playKeepsItsBufferUptoRow.holds Try.pinned (OpenSpec.upto playKeepsItsBufferSpec)

/-- 'headendlaw11.PlayNothingIsPlayedEarly', WHERE WHAT IT READS IS OF BULK AT MOST 1048576: true; the input reads as it did. -/
def playNothingIsPlayedEarlyUptoRow : OpenClaim := { program := "ytkedjmepfcchoaa", sum := "042c80869d89c9f516338a0af321261f3f2afd1c349bccee4e3e494ec845e141", func := "headend/headendlaw11.PlayNothingIsPlayedEarly", spec := "playNothingIsPlayedEarly", inPlace := ["math/bits.Sub64"], unfollowed := true, recurses := true, named := ["math/bits.divideError", "math/bits.overflowError"], apart := false, narrowed := true }
def PlayNothingIsPlayedEarlyUptoSaid : Prop := playNothingIsPlayedEarlyUptoRow.holds Try.pinned (OpenSpec.upto playNothingIsPlayedEarlySpec)

/-- 'headendlaw11.PlayRunsAreGiven', WHERE WHAT IT READS IS OF BULK AT MOST 1048576: true; the input reads as it did. -/
def playRunsAreGivenUptoRow : OpenClaim := { program := "ytkedjmepfcchoaa", sum := "042c80869d89c9f516338a0af321261f3f2afd1c349bccee4e3e494ec845e141", func := "headend/headendlaw11.PlayRunsAreGiven", spec := "playRunsAreGiven", inPlace := ["math/bits.Sub64"], unfollowed := true, recurses := true, named := ["math/bits.divideError", "math/bits.overflowError"], apart := false, narrowed := true }
def PlayRunsAreGivenUptoSaid : Prop := playRunsAreGivenUptoRow.holds Try.pinned (OpenSpec.upto playRunsAreGivenSpec)

/-- 'headendlaw11.PlayNoneIsBetterThanBest', WHERE WHAT IT READS IS OF BULK AT MOST 1048576: true; the input reads as it did. -/
def playNoneIsBetterThanBestUptoRow : OpenClaim := { program := "ytkedjmepfcchoaa", sum := "042c80869d89c9f516338a0af321261f3f2afd1c349bccee4e3e494ec845e141", func := "headend/headendlaw11.PlayNoneIsBetterThanBest", spec := "playNoneIsBetterThanBest", inPlace := ["math/bits.Sub64"], unfollowed := true, recurses := true, named := ["math/bits.divideError", "math/bits.overflowError"], apart := false, narrowed := true }
def PlayNoneIsBetterThanBestUptoSaid : Prop := playNoneIsBetterThanBestUptoRow.holds Try.pinned (OpenSpec.upto playNoneIsBetterThanBestSpec)

end Rows
end Go.Proofs.Ytkedjmepfcchoaa
