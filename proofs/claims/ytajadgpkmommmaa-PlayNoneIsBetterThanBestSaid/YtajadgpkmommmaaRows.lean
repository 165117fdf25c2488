/-
  No cell of these rows narrows 'for every input' (looked for: loops, veiled, ifaces, maps, wideKeys, modest, calm, conditions, laid).
  DERIVED. THE GIVEN ROWS OF THIS SEAT. 4 by the template 'for every input the law returns true; each argument reads behind the call as it read before'; 0 by the template 'total and deterministic' (their statements: YtajadgpkmommmaaTotals.lean).
  GIVEN WITH THE SEED: the statements are not yours to turn. If you find one false, say at which input.
  Laid BY PROGRAM, IN A SANDBOX (cutbox-rows.mjs): the forced cells as the released guide's own fill.sh prints them over the translation e600437204f94cc9… (all of the seat's roots in one cut). By AI agents, Wed Nov 11 2026. No macro, syntax, notation, axiom, sorry.
-/
import Derived.Test.YtajadgpkmommmaaChecked
import GoSem.Claim
import GoSem.ClaimJoined
import GoSem.ClaimMapViews
import Derived.JoinedTies
import Derived.KernelRfl
namespace Go.Proofs.Ytajadgpkmommmaa
/- THE CELL 'sum', in the pinned program and in every row, IS THE sha256 OF THE DUMP (.gsa) THAT YtajadgpkmommmaaProg.lean LOADS. Nothing in Lean hashes anything: it is a label: what it is worth is what the hold of that sum in a sandbox is worth. -/
noncomputable def Try.pinned : Pinned := { name := "ytajadgpkmommmaa", sum := "e600437204f94cc9952e18a6e67e340537fe7837e7a75e38d1c58e9a4940a376", checked := Try.checked }
namespace Rows
def none {H : Type} : Left H := { results := [], args := [] }

/-- 'headendlaw11.PlayKeepsItsBuffer': WHATEVER THE INPUT: true; the input reads as it did. -/
def playKeepsItsBufferSpec : ChangeSpec := { name := "playKeepsItsBuffer", fn := fun _ => fun
  | [d1, d2, d3] => { results := [.lit (.bool true)], args := [d1, d2, d3] }
  | _ => none }
def playKeepsItsBufferRow : OpenClaim := { program := "ytajadgpkmommmaa", sum := "e600437204f94cc9952e18a6e67e340537fe7837e7a75e38d1c58e9a4940a376", func := "headend/headendlaw11.PlayKeepsItsBuffer", spec := "playKeepsItsBuffer", inPlace := ["math/bits.Sub64"], unfollowed := true, recurses := true, named := ["math/bits.divideError", "math/bits.overflowError"], apart := false }
def PlayKeepsItsBufferSaid : Prop := playKeepsItsBufferRow.holds Try.pinned (OpenSpec.ofChange playKeepsItsBufferSpec)

/-- ITS FALSE NEIGHBOUR: 'it returns false'. Refute it at one input. -/
def playKeepsItsBufferWrong : ChangeSpec := { name := "playKeepsItsBuffer", fn := fun _ => fun
  | [d1, d2, d3] => { results := [.lit (.bool false)], args := [d1, d2, d3] }
  | _ => none }
def PlayKeepsItsBufferWrongFalsely : Prop := playKeepsItsBufferRow.holds Try.pinned (OpenSpec.ofChange playKeepsItsBufferWrong)

/-- 'headendlaw11.PlayNothingIsPlayedEarly': WHATEVER THE INPUT: true; the input reads as it did. -/
def playNothingIsPlayedEarlySpec : ChangeSpec := { name := "playNothingIsPlayedEarly", fn := fun _ => fun
  | [d1, d2, d3, d4] => { results := [.lit (.bool true)], args := [d1, d2, d3, d4] }
  | _ => none }
def playNothingIsPlayedEarlyRow : OpenClaim := { program := "ytajadgpkmommmaa", sum := "e600437204f94cc9952e18a6e67e340537fe7837e7a75e38d1c58e9a4940a376", func := "headend/headendlaw11.PlayNothingIsPlayedEarly", spec := "playNothingIsPlayedEarly", inPlace := ["math/bits.Sub64"], unfollowed := true, recurses := true, named := ["math/bits.divideError", "math/bits.overflowError"], apart := false }
def PlayNothingIsPlayedEarlySaid : Prop := playNothingIsPlayedEarlyRow.holds Try.pinned (OpenSpec.ofChange playNothingIsPlayedEarlySpec)

/-- ITS FALSE NEIGHBOUR: 'it returns false'. Refute it at one input. -/
def playNothingIsPlayedEarlyWrong : ChangeSpec := { name := "playNothingIsPlayedEarly", fn := fun _ => fun
  | [d1, d2, d3, d4] => { results := [.lit (.bool false)], args := [d1, d2, d3, d4] }
  | _ => none }
def PlayNothingIsPlayedEarlyWrongFalsely : Prop := playNothingIsPlayedEarlyRow.holds Try.pinned (OpenSpec.ofChange playNothingIsPlayedEarlyWrong)

/-- 'headendlaw11.PlayRunsAreGiven': WHATEVER THE INPUT: true; the input reads as it did. -/
def playRunsAreGivenSpec : ChangeSpec := { name := "playRunsAreGiven", fn := fun _ => fun
  | [d1, d2, d3] => { results := [.lit (.bool true)], args := [d1, d2, d3] }
  | _ => none }
def playRunsAreGivenRow : OpenClaim := { program := "ytajadgpkmommmaa", sum := "e600437204f94cc9952e18a6e67e340537fe7837e7a75e38d1c58e9a4940a376", func := "headend/headendlaw11.PlayRunsAreGiven", spec := "playRunsAreGiven", inPlace := ["math/bits.Sub64"], unfollowed := true, recurses := true, named := ["math/bits.divideError", "math/bits.overflowError"], apart := false }
def PlayRunsAreGivenSaid : Prop := playRunsAreGivenRow.holds Try.pinned (OpenSpec.ofChange playRunsAreGivenSpec)

/-- ITS FALSE NEIGHBOUR: 'it returns false'. Refute it at one input. -/
def playRunsAreGivenWrong : ChangeSpec := { name := "playRunsAreGiven", fn := fun _ => fun
  | [d1, d2, d3] => { results := [.lit (.bool false)], args := [d1, d2, d3] }
  | _ => none }
def PlayRunsAreGivenWrongFalsely : Prop := playRunsAreGivenRow.holds Try.pinned (OpenSpec.ofChange playRunsAreGivenWrong)

/-- 'headendlaw11.PlayNoneIsBetterThanBest': WHATEVER THE INPUT: true; the input reads as it did. -/
def playNoneIsBetterThanBestSpec : ChangeSpec := { name := "playNoneIsBetterThanBest", fn := fun _ => fun
  | [d1, d2, d3, d4, d5] => { results := [.lit (.bool true)], args := [d1, d2, d3, d4, d5] }
  | _ => none }
def playNoneIsBetterThanBestRow : OpenClaim := { program := "ytajadgpkmommmaa", sum := "e600437204f94cc9952e18a6e67e340537fe7837e7a75e38d1c58e9a4940a376", func := "headend/headendlaw11.PlayNoneIsBetterThanBest", spec := "playNoneIsBetterThanBest", inPlace := ["math/bits.Sub64"], unfollowed := true, recurses := true, named := ["math/bits.divideError", "math/bits.overflowError"], apart := false }
def PlayNoneIsBetterThanBestSaid : Prop := playNoneIsBetterThanBestRow.holds Try.pinned (OpenSpec.ofChange playNoneIsBetterThanBestSpec)

/-- ITS FALSE NEIGHBOUR: 'it returns false'. Refute it at one input. -/
def playNoneIsBetterThanBestWrong : ChangeSpec := { name := "playNoneIsBetterThanBest", fn := fun _ => fun
  | [d1, d2, d3, d4, d5] => { results := [.lit (.bool false)], args := [d1, d2, d3, d4, d5] }
  | _ => none }
def PlayNoneIsBetterThanBestWrongFalsely : Prop := playNoneIsBetterThanBestRow.holds Try.pinned (OpenSpec.ofChange playNoneIsBetterThanBestWrong)

/- THE SECOND FORM. 'bulk': how many values and letters a reading holds, each counted each time it is reached (what is shared counts as often as it is met; a slice's spare places count too). A statement '..UptoSaid' is the law's where the arguments, and the package variables that the reading takes, are together of bulk at most 1048576: NARROWER than '..Said'. Prove '..Said' where nothing that the law and all that it calls make is longer than what came in: it says more and counts as full. Else prove '..UptoSaid'. A law counts once. -/
mutual
def uptoBulk {H : Type} : DataW H → Nat
  | .lit (.string bytes) => bytes.length + 1
  | .lit _ => 1
  | .nil => 1
  | .ptr d => uptoBulk d + 1
  | .slice elems spare => uptoBulkAll elems + uptoBulkAll spare + 1
  | .agg parts => uptoBulkAll parts + 1
  | .iface _ d => uptoBulk d + 1
  | .map entries => uptoBulkEntries entries + 1
  | .held _ => 1
def uptoBulkAll {H : Type} : List (DataW H) → Nat
  | [] => 0
  | d :: r => uptoBulk d + uptoBulkAll r
def uptoBulkEntries {H : Type} : List (Lit × DataW H) → Nat
  | [] => 0
  | x :: r => uptoBulkEntry x + uptoBulkEntries r
def uptoBulkEntry {H : Type} : Lit × DataW H → Nat
  | (.string bytes, d) => bytes.length + uptoBulk d + 1
  | (_, d) => uptoBulk d + 1
 end
def uptoSmall : (H : Type) → List (DataW H) → Bool := fun _ ds => decide (uptoBulkAll ds ≤ 1048576)
def OpenSpec.upto (s : _root_.Go.ChangeSpec) : _root_.Go.OpenSpec := { _root_.Go.OpenSpec.ofChange s with cond := some uptoSmall }

/-- 'headendlaw11.PlayKeepsItsBuffer', WHERE WHAT IT READS IS OF BULK AT MOST 1048576: true; the input reads as it did. -/
def playKeepsItsBufferUptoRow : OpenClaim := { program := "ytajadgpkmommmaa", sum := "e600437204f94cc9952e18a6e67e340537fe7837e7a75e38d1c58e9a4940a376", func := "headend/headendlaw11.PlayKeepsItsBuffer", spec := "playKeepsItsBuffer", inPlace := ["math/bits.Sub64"], unfollowed := true, recurses := true, named := ["math/bits.divideError", "math/bits.overflowError"], apart := false, narrowed := true }
def PlayKeepsItsBufferUptoSaid : Prop := playKeepsItsBufferUptoRow.holds Try.pinned (OpenSpec.upto playKeepsItsBufferSpec)

/-- 'headendlaw11.PlayNothingIsPlayedEarly', WHERE WHAT IT READS IS OF BULK AT MOST 1048576: true; the input reads as it did. -/
def playNothingIsPlayedEarlyUptoRow : OpenClaim := { program := "ytajadgpkmommmaa", sum := "e600437204f94cc9952e18a6e67e340537fe7837e7a75e38d1c58e9a4940a376", func := "headend/headendlaw11.PlayNothingIsPlayedEarly", spec := "playNothingIsPlayedEarly", inPlace := ["math/bits.Sub64"], unfollowed := true, recurses := true, named := ["math/bits.divideError", "math/bits.overflowError"], apart := false, narrowed := true }
def PlayNothingIsPlayedEarlyUptoSaid : Prop := playNothingIsPlayedEarlyUptoRow.holds Try.pinned (OpenSpec.upto playNothingIsPlayedEarlySpec)

/-- 'headendlaw11.PlayRunsAreGiven', WHERE WHAT IT READS IS OF BULK AT MOST 1048576: true; the input reads as it did. -/
def playRunsAreGivenUptoRow : OpenClaim := { program := "ytajadgpkmommmaa", sum := "e600437204f94cc9952e18a6e67e340537fe7837e7a75e38d1c58e9a4940a376", func := "headend/headendlaw11.PlayRunsAreGiven", spec := "playRunsAreGiven", inPlace := ["math/bits.Sub64"], unfollowed := true, recurses := true, named := ["math/bits.divideError", "math/bits.overflowError"], apart := false, narrowed := true }
def PlayRunsAreGivenUptoSaid : Prop := playRunsAreGivenUptoRow.holds Try.pinned (OpenSpec.upto playRunsAreGivenSpec)

/-- 'headendlaw11.PlayNoneIsBetterThanBest', WHERE WHAT IT READS IS OF BULK AT MOST 1048576: true; the input reads as it did. -/
def playNoneIsBetterThanBestUptoRow : OpenClaim := { program := "ytajadgpkmommmaa", sum := "e600437204f94cc9952e18a6e67e340537fe7837e7a75e38d1c58e9a4940a376", func := "headend/headendlaw11.PlayNoneIsBetterThanBest", spec := "playNoneIsBetterThanBest", inPlace := ["math/bits.Sub64"], unfollowed := true, recurses := true, named := ["math/bits.divideError", "math/bits.overflowError"], apart := false, narrowed := true }
def PlayNoneIsBetterThanBestUptoSaid : Prop := playNoneIsBetterThanBestUptoRow.holds Try.pinned (OpenSpec.upto playNoneIsBetterThanBestSpec)

end Rows
end Go.Proofs.Ytajadgpkmommmaa
