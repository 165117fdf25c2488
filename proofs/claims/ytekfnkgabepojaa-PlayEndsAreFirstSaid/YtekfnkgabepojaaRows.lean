/-
  No cell of these rows narrows 'for every input' (looked for: loops, veiled, ifaces, maps, wideKeys, modest, calm, conditions, laid).
  DERIVED. THE GIVEN ROWS OF THIS SEAT. 5 by the template 'for every input the law returns true; each argument reads behind the call as it read before'; 0 by the template 'total and deterministic' (their statements: YtekfnkgabepojaaTotals.lean).
  GIVEN WITH THE SEED: the statements are not yours to turn. If you find one false, say at which input.
  Laid BY PROGRAM, IN A SANDBOX (cutbox-rows.mjs): the forced cells as the released guide's own fill.sh prints them over the translation d21b7e1a755728b1… (all of the seat's roots in one cut). By AI agents, Wed Nov 11 2026. No macro, syntax, notation, axiom, sorry.
-/
import Derived.Test.YtekfnkgabepojaaChecked
import GoSem.Claim
import GoSem.ClaimJoined
import GoSem.ClaimMapViews
import Derived.JoinedTies
import Derived.KernelRfl
namespace Go.Proofs.Ytekfnkgabepojaa
/- THE CELL 'sum', in the pinned program and in every row, IS THE sha256 OF THE DUMP (.gsa) THAT YtekfnkgabepojaaProg.lean LOADS. Nothing in Lean hashes anything: it is a label: what it is worth is what the hold of that sum in a sandbox is worth. -/
noncomputable def Try.pinned : Pinned := { name := "ytekfnkgabepojaa", sum := "d21b7e1a755728b17e6f9da72397c94d6e63b0b030a729ea5902d140a32e6152", checked := Try.checked }
namespace Rows
def none {H : Type} : Left H := { results := [], args := [] }

/-- 'headendlaw11.PlayTracesMatchSpec': WHATEVER THE INPUT: true; the input reads as it did. -/
def playTracesMatchSpecSpec : ChangeSpec := { name := "playTracesMatchSpec", fn := fun _ => fun
  | [d1, d2, d3, d4] => { results := [.lit (.bool true)], args := [d1, d2, d3, d4] }
  | _ => none }
def playTracesMatchSpecRow : OpenClaim := { program := "ytekfnkgabepojaa", sum := "d21b7e1a755728b17e6f9da72397c94d6e63b0b030a729ea5902d140a32e6152", func := "headend/headendlaw11.PlayTracesMatchSpec", spec := "playTracesMatchSpec", apart := false }
def PlayTracesMatchSpecSaid : Prop := playTracesMatchSpecRow.holds Try.pinned (OpenSpec.ofChange playTracesMatchSpecSpec)

/-- ITS FALSE NEIGHBOUR: 'it returns false'. Refute it at one input. -/
def playTracesMatchSpecWrong : ChangeSpec := { name := "playTracesMatchSpec", fn := fun _ => fun
  | [d1, d2, d3, d4] => { results := [.lit (.bool false)], args := [d1, d2, d3, d4] }
  | _ => none }
def PlayTracesMatchSpecWrongFalsely : Prop := playTracesMatchSpecRow.holds Try.pinned (OpenSpec.ofChange playTracesMatchSpecWrong)

/-- 'headendlaw11.PlayEndsAreFirst': WHATEVER THE INPUT: true; the input reads as it did. -/
def playEndsAreFirstSpec : ChangeSpec := { name := "playEndsAreFirst", fn := fun _ => fun
  | [d1, d2, d3, d4] => { results := [.lit (.bool true)], args := [d1, d2, d3, d4] }
  | _ => none }
def playEndsAreFirstRow : OpenClaim := { program := "ytekfnkgabepojaa", sum := "d21b7e1a755728b17e6f9da72397c94d6e63b0b030a729ea5902d140a32e6152", func := "headend/headendlaw11.PlayEndsAreFirst", spec := "playEndsAreFirst", apart := false }
def PlayEndsAreFirstSaid : Prop := playEndsAreFirstRow.holds Try.pinned (OpenSpec.ofChange playEndsAreFirstSpec)

/-- ITS FALSE NEIGHBOUR: 'it returns false'. Refute it at one input. -/
def playEndsAreFirstWrong : ChangeSpec := { name := "playEndsAreFirst", fn := fun _ => fun
  | [d1, d2, d3, d4] => { results := [.lit (.bool false)], args := [d1, d2, d3, d4] }
  | _ => none }
def PlayEndsAreFirstWrongFalsely : Prop := playEndsAreFirstRow.holds Try.pinned (OpenSpec.ofChange playEndsAreFirstWrong)

/-- 'headendlaw11.PlayFilmsMatchSpec': WHATEVER THE INPUT: true; the input reads as it did. -/
def playFilmsMatchSpecSpec : ChangeSpec := { name := "playFilmsMatchSpec", fn := fun _ => fun
  | [d1, d2, d3] => { results := [.lit (.bool true)], args := [d1, d2, d3] }
  | _ => none }
def playFilmsMatchSpecRow : OpenClaim := { program := "ytekfnkgabepojaa", sum := "d21b7e1a755728b17e6f9da72397c94d6e63b0b030a729ea5902d140a32e6152", func := "headend/headendlaw11.PlayFilmsMatchSpec", spec := "playFilmsMatchSpec", unfollowed := true, recurses := true, apart := false }
def PlayFilmsMatchSpecSaid : Prop := playFilmsMatchSpecRow.holds Try.pinned (OpenSpec.ofChange playFilmsMatchSpecSpec)

/-- ITS FALSE NEIGHBOUR: 'it returns false'. Refute it at one input. -/
def playFilmsMatchSpecWrong : ChangeSpec := { name := "playFilmsMatchSpec", fn := fun _ => fun
  | [d1, d2, d3] => { results := [.lit (.bool false)], args := [d1, d2, d3] }
  | _ => none }
def PlayFilmsMatchSpecWrongFalsely : Prop := playFilmsMatchSpecRow.holds Try.pinned (OpenSpec.ofChange playFilmsMatchSpecWrong)

/-- 'headendtop.TopMeansAgree': WHATEVER THE INPUT: true; the input reads as it did. -/
def topMeansAgreeSpec : ChangeSpec := { name := "topMeansAgree", fn := fun _ => fun
  | [d] => { results := [.lit (.bool true)], args := [d] }
  | _ => none }
def topMeansAgreeRow : OpenClaim := { program := "ytekfnkgabepojaa", sum := "d21b7e1a755728b17e6f9da72397c94d6e63b0b030a729ea5902d140a32e6152", func := "headend/headendtop.TopMeansAgree", spec := "topMeansAgree", unfollowed := true, recurses := true, apart := false }
def TopMeansAgreeSaid : Prop := topMeansAgreeRow.holds Try.pinned (OpenSpec.ofChange topMeansAgreeSpec)

/-- ITS FALSE NEIGHBOUR: 'it returns false'. Refute it at one input. -/
def topMeansAgreeWrong : ChangeSpec := { name := "topMeansAgree", fn := fun _ => fun
  | [d] => { results := [.lit (.bool false)], args := [d] }
  | _ => none }
def TopMeansAgreeWrongFalsely : Prop := topMeansAgreeRow.holds Try.pinned (OpenSpec.ofChange topMeansAgreeWrong)

/-- 'headendlaw11.PlaySessionsMatchSpec': WHATEVER THE INPUT: true; the input reads as it did. -/
def playSessionsMatchSpecSpec : ChangeSpec := { name := "playSessionsMatchSpec", fn := fun _ => fun
  | [d1, d2, d3, d4] => { results := [.lit (.bool true)], args := [d1, d2, d3, d4] }
  | _ => none }
def playSessionsMatchSpecRow : OpenClaim := { program := "ytekfnkgabepojaa", sum := "d21b7e1a755728b17e6f9da72397c94d6e63b0b030a729ea5902d140a32e6152", func := "headend/headendlaw11.PlaySessionsMatchSpec", spec := "playSessionsMatchSpec", unfollowed := true, recurses := true, apart := false }
def PlaySessionsMatchSpecSaid : Prop := playSessionsMatchSpecRow.holds Try.pinned (OpenSpec.ofChange playSessionsMatchSpecSpec)

/-- ITS FALSE NEIGHBOUR: 'it returns false'. Refute it at one input. -/
def playSessionsMatchSpecWrong : ChangeSpec := { name := "playSessionsMatchSpec", fn := fun _ => fun
  | [d1, d2, d3, d4] => { results := [.lit (.bool false)], args := [d1, d2, d3, d4] }
  | _ => none }
def PlaySessionsMatchSpecWrongFalsely : Prop := playSessionsMatchSpecRow.holds Try.pinned (OpenSpec.ofChange playSessionsMatchSpecWrong)

/- THE SECOND FORM. 'bulk': how many values and letters a reading holds, each counted each time it is reached (what is shared counts as often as it is met; a slice's spare places count too). A statement '..UptoSaid' is the law's where the arguments, and the package variables that the reading takes, are together of bulk at most 1048576: NARROWER than '..Said'. Prove '..Said' where nothing that the law and all that it calls make is longer than what came in: it says more and counts as full. Else prove '..UptoSaid'. A law counts once. -/
mutual
def uptoBulk {H : Type} : DataW H → Nat
  | .lit (.string bytes) => bytes.length + 1
  | .lit _ => 1
  | .nil => 1
  | .ptr d => uptoBulk d + 1
  | .slice elems spare => uptoBulkAll elems + uptoBulkAll spare + 1
  | .agg parts => uptoBulkAll parts + 1
  | .iface _ d => uptoBulk d + 1
  | .map entries => uptoBulkEntries entries + 1
  | .held _ => 1
def uptoBulkAll {H : Type} : List (DataW H) → Nat
  | [] => 0
  | d :: r => uptoBulk d + uptoBulkAll r
def uptoBulkEntries {H : Type} : List (Lit × DataW H) → Nat
  | [] => 0
  | x :: r => uptoBulkEntry x + uptoBulkEntries r
def uptoBulkEntry {H : Type} : Lit × DataW H → Nat
  | (.string bytes, d) => bytes.length + uptoBulk d + 1
  | (_, d) => uptoBulk d + 1
 end
def uptoSmall : (H : Type) → List (DataW H) → Bool := fun _ ds => decide (uptoBulkAll ds ≤ 1048576)
def OpenSpec.upto (s : _root_.Go.ChangeSpec) : _root_.Go.OpenSpec := { _root_.Go.OpenSpec.ofChange s with cond := some uptoSmall }

/-- 'headendlaw11.PlayTracesMatchSpec', WHERE WHAT IT READS IS OF BULK AT MOST 1048576: true; the input reads as it did. -/
def playTracesMatchSpecUptoRow : OpenClaim := { program := "ytekfnkgabepojaa", sum := "d21b7e1a755728b17e6f9da72397c94d6e63b0b030a729ea5902d140a32e6152", func := "headend/headendlaw11.PlayTracesMatchSpec", spec := "playTracesMatchSpec", apart := false, narrowed := true }
def PlayTracesMatchSpecUptoSaid : Prop := playTracesMatchSpecUptoRow.holds Try.pinned (OpenSpec.upto playTracesMatchSpecSpec)

/-- 'headendlaw11.PlayEndsAreFirst', WHERE WHAT IT READS IS OF BULK AT MOST 1048576: true; the input reads as it did. -/
def playEndsAreFirstUptoRow : OpenClaim := { program := "ytekfnkgabepojaa", sum := "d21b7e1a755728b17e6f9da72397c94d6e63b0b030a729ea5902d140a32e6152", func := "headend/headendlaw11.PlayEndsAreFirst", spec := "playEndsAreFirst", apart := false, narrowed := true }
def PlayEndsAreFirstUptoSaid : Prop := playEndsAreFirstUptoRow.holds Try.pinned (OpenSpec.upto playEndsAreFirstSpec)

/-- 'headendlaw11.PlayFilmsMatchSpec', WHERE WHAT IT READS IS OF BULK AT MOST 1048576: true; the input reads as it did. -/
def playFilmsMatchSpecUptoRow : OpenClaim := { program := "ytekfnkgabepojaa", sum := "d21b7e1a755728b17e6f9da72397c94d6e63b0b030a729ea5902d140a32e6152", func := "headend/headendlaw11.PlayFilmsMatchSpec", spec := "playFilmsMatchSpec", unfollowed := true, recurses := true, apart := false, narrowed := true }
def PlayFilmsMatchSpecUptoSaid : Prop := playFilmsMatchSpecUptoRow.holds Try.pinned (OpenSpec.upto playFilmsMatchSpecSpec)

/-- 'headendtop.TopMeansAgree', WHERE WHAT IT READS IS OF BULK AT MOST 1048576: true; the input reads as it did. -/
def topMeansAgreeUptoRow : OpenClaim := { program := "ytekfnkgabepojaa", sum := "d21b7e1a755728b17e6f9da72397c94d6e63b0b030a729ea5902d140a32e6152", func := "headend/headendtop.TopMeansAgree", spec := "topMeansAgree", unfollowed := true, recurses := true, apart := false, narrowed := true }
def TopMeansAgreeUptoSaid : Prop := topMeansAgreeUptoRow.holds Try.pinned (OpenSpec.upto topMeansAgreeSpec)

/-- 'headendlaw11.PlaySessionsMatchSpec', WHERE WHAT IT READS IS OF BULK AT MOST 1048576: true; the input reads as it did. -/
def playSessionsMatchSpecUptoRow : OpenClaim := { program := "ytekfnkgabepojaa", sum := "d21b7e1a755728b17e6f9da72397c94d6e63b0b030a729ea5902d140a32e6152", func := "headend/headendlaw11.PlaySessionsMatchSpec", spec := "playSessionsMatchSpec", unfollowed := true, recurses := true, apart := false, narrowed := true }
def PlaySessionsMatchSpecUptoSaid : Prop := playSessionsMatchSpecUptoRow.holds Try.pinned (OpenSpec.upto playSessionsMatchSpecSpec)

end Rows
end Go.Proofs.Ytekfnkgabepojaa
