/-
  DERIVED. GIVEN WITH THE SEED: THE CARDS: each row of YtfelgolfebhmkaaDoorRows.lean that lists a variable, with what it lists TIED to the program's text (the seventh form; the later family's looks); each row that meets fmt, with fmt's text TOLD by the authors' own Lean function (tested against real Go, not proved from fmt's source: count such statements apart). THE CARD IS WHAT COUNTS. Prove the row's statement (the work); the ties are given (YtfelgolfebhmkaaDoorTie.lean); close each card by the builder's one call (the guide's Derived/Test/ToyasCard.lean, 'card_holds'). Laid BY PROGRAM, IN A SANDBOX (cutbox-door.mjs). By AI agents, Wed Nov 11 2026. No macro, syntax, notation, axiom, sorry.
-/
import Derived.Test.YtfelgolfebhmkaaDoorRows
import GoSem.ClaimSeven
namespace Go.Proofs.YtfelgolfebhmkaaDoor
namespace Rows

/-- THE TIED CARD OF 'headendtop.TopPlayersStayInLadders'. -/
def topPlayersStayInLaddersCard : Claim7 := { stood := { row := topPlayersStayInLaddersRow, standIns := [], harness := (true, "2a391dc2335f7cfa7f329e5d621f46cda7778ddd04614f09b19ddc2e41bd79e9"), looks := false }, kinds := [], alts := [], laidByText := true, laidKinds := [.data, .data, .data], laidTests := true, laidLooks := .later }
def TopPlayersStayInLaddersCardSaid : Prop := Claim7.holds Tryd.pinned (.plain (OpenSpec.ofChange topPlayersStayInLaddersSpec)) topPlayersStayInLaddersCard

/-- THE SECOND FORM's CARD OF 'headendtop.TopPlayersStayInLadders'. -/
def topPlayersStayInLaddersUptoCard : Claim7 := { stood := { row := topPlayersStayInLaddersUptoRow, standIns := [], harness := (true, "2a391dc2335f7cfa7f329e5d621f46cda7778ddd04614f09b19ddc2e41bd79e9"), looks := false }, kinds := [], alts := [], laidByText := true, laidKinds := [.data, .data, .data], laidTests := true, laidLooks := .later }
def TopPlayersStayInLaddersUptoCardSaid : Prop := Claim7.holds Tryd.pinned (.plain (OpenSpec.upto topPlayersStayInLaddersSpec)) topPlayersStayInLaddersUptoCard
end Rows
end Go.Proofs.YtfelgolfebhmkaaDoor
