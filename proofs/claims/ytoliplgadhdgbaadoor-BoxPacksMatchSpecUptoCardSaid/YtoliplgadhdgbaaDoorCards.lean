/-
  DERIVED. GIVEN WITH THE SEED: THE CARDS: each row of YtoliplgadhdgbaaDoorRows.lean that lists a variable, with what it lists TIED to the program's text (the seventh form; the later family's looks); each row that meets fmt, with fmt's text TOLD by the authors' own Lean function (tested against real Go, not proved from fmt's source: count such statements apart). THE CARD IS WHAT COUNTS. Prove the row's statement (the work); the ties are given (YtoliplgadhdgbaaDoorTie.lean); close each card by the builder's one call (the guide's Derived/Test/ToyasCard.lean, 'card_holds'). Laid BY PROGRAM, IN A SANDBOX (cutbox-door.mjs). By AI agents, Wed Nov 11 2026. No macro, syntax, notation, axiom, sorry.
-/
import Derived.Test.YtoliplgadhdgbaaDoorRows
import GoSem.ClaimSeven
namespace Go.Proofs.YtoliplgadhdgbaaDoor
namespace Rows

/-- THE TIED CARD OF 'headendlaw2.BoxPacksMatchSpec'. -/
def boxPacksMatchSpecCard : Claim7 := { stood := { row := boxPacksMatchSpecRow, standIns := [], harness := (true, "141e67e6b6fdca26401d5cfac802c33056b10c0ea8432e3d5e90e6d3d985ab9a"), looks := false }, kinds := [], alts := [], laidByText := true, laidKinds := [.data, .pinned], laidTests := true, laidLooks := .later }
def BoxPacksMatchSpecCardSaid : Prop := Claim7.holds Tryd.pinned (.plain (OpenSpec.ofChange boxPacksMatchSpecSpec)) boxPacksMatchSpecCard

/-- THE SECOND FORM's CARD OF 'headendlaw2.BoxPacksMatchSpec'. -/
def boxPacksMatchSpecUptoCard : Claim7 := { stood := { row := boxPacksMatchSpecUptoRow, standIns := [], harness := (true, "141e67e6b6fdca26401d5cfac802c33056b10c0ea8432e3d5e90e6d3d985ab9a"), looks := false }, kinds := [], alts := [], laidByText := true, laidKinds := [.data, .pinned], laidTests := true, laidLooks := .later }
def BoxPacksMatchSpecUptoCardSaid : Prop := Claim7.holds Tryd.pinned (.plain (OpenSpec.upto boxPacksMatchSpecSpec)) boxPacksMatchSpecUptoCard
end Rows
end Go.Proofs.YtoliplgadhdgbaaDoor
