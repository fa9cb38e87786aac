/-
  DERIVED. GIVEN WITH THE SEED: THE CARDS: each row of YtffgojlocbafhaaGreatDoorRows.lean that lists a variable, with what it lists TIED to the program's text (the seventh form; the later family's looks); each row that meets fmt, with fmt's text TOLD by the authors' own Lean function (tested against real Go, not proved from fmt's source: count such statements apart). THE CARD IS WHAT COUNTS. Prove the row's statement (the work); the ties are given (YtffgojlocbafhaaGreatDoorTie.lean); close each card by the builder's one call (the guide's Derived/Test/ToyasCard.lean, 'card_holds'). Laid BY PROGRAM, IN A SANDBOX (cutbox-door.mjs). By AI agents, Wed Nov 11 2026. No macro, syntax, notation, axiom, sorry.
-/
import Derived.Test.YtffgojlocbafhaaGreatDoorRows
import GoSem.ClaimSeven
namespace Go.Proofs.YtffgojlocbafhaaGreatDoor
namespace Rows

/-- THE TIED CARD OF 'laws.FnAlgebraTexts'. -/
def fnAlgebraTextsCard : Claim7 := { stood := { row := fnAlgebraTextsRow, standIns := [], harness := (true, "bfc3f8803bf17153607f119e786c9cc03421039543d1f734e17fa7b470f552cd"), looks := true }, kinds := [], alts := [], laidByText := true, laidKinds := [.data, .data, .data, .data, .sentinel, .sentinel, .pinned], laidTests := true, laidLooks := .later }
def FnAlgebraTextsCardSaid : Prop := Claim7.holds Tryz.pinned (.plain (OpenSpec.ofChange fnAlgebraTextsSpec)) fnAlgebraTextsCard

/-- THE SECOND FORM's CARD OF 'laws.FnAlgebraTexts'. -/
def fnAlgebraTextsUptoCard : Claim7 := { stood := { row := fnAlgebraTextsUptoRow, standIns := [], harness := (true, "bfc3f8803bf17153607f119e786c9cc03421039543d1f734e17fa7b470f552cd"), looks := true }, kinds := [], alts := [], laidByText := true, laidKinds := [.data, .data, .data, .data, .sentinel, .sentinel, .pinned], laidTests := true, laidLooks := .later }
def FnAlgebraTextsUptoCardSaid : Prop := Claim7.holds Tryz.pinned (.plain (OpenSpec.upto fnAlgebraTextsSpec)) fnAlgebraTextsUptoCard
end Rows
end Go.Proofs.YtffgojlocbafhaaGreatDoor
