/-
  DERIVED. GIVEN WITH THE SEED: THE CARDS: each row of YtbjhllmcnfncdaaDoorRows.lean that lists a variable, with what it lists TIED to the program's text (the seventh form; the later family's looks); each row that meets fmt, with fmt's text TOLD by the authors' own Lean function (tested against real Go, not proved from fmt's source: count such statements apart). THE CARD IS WHAT COUNTS. Prove the row's statement (the work); the ties are given (YtbjhllmcnfncdaaDoorTie.lean); close each card by the builder's one call (the guide's Derived/Test/ToyasCard.lean, 'card_holds'). Laid BY PROGRAM, IN A SANDBOX (cutbox-door.mjs). By AI agents, Wed Nov 11 2026. No macro, syntax, notation, axiom, sorry.
-/
import Derived.Test.YtbjhllmcnfncdaaDoorRows
import GoSem.ClaimSeven
namespace Go.Proofs.YtbjhllmcnfncdaaDoor
namespace Rows

/-- THE TIED CARD OF 'laws.FnExactFormText'. -/
def fnExactFormTextCard : Claim7 := { stood := { row := fnExactFormTextRow, standIns := [], harness := (true, "42dfe4ee58aa75cff37c8fd705bd87ed3c60cf5af0e0ed589015afd8aa5d913d"), looks := false }, kinds := [], alts := [], laidByText := true, laidKinds := [.data, .data, .data], laidTests := true, laidLooks := .later }
def FnExactFormTextCardSaid : Prop := Claim7.holds Tryd.pinned (.plain (OpenSpec.ofChange fnExactFormTextSpec)) fnExactFormTextCard

/-- THE TIED CARD OF 'laws.FnExactAlgebraText'. -/
def fnExactAlgebraTextCard : Claim7 := { stood := { row := fnExactAlgebraTextRow, standIns := [], harness := (true, "42dfe4ee58aa75cff37c8fd705bd87ed3c60cf5af0e0ed589015afd8aa5d913d"), looks := false }, kinds := [], alts := [], laidByText := true, laidKinds := [.data, .data, .data], laidTests := true, laidLooks := .later }
def FnExactAlgebraTextCardSaid : Prop := Claim7.holds Tryd.pinned (.plain (OpenSpec.ofChange fnExactAlgebraTextSpec)) fnExactAlgebraTextCard

/-- THE SECOND FORM's CARD OF 'laws.FnExactFormText'. -/
def fnExactFormTextUptoCard : Claim7 := { stood := { row := fnExactFormTextUptoRow, standIns := [], harness := (true, "42dfe4ee58aa75cff37c8fd705bd87ed3c60cf5af0e0ed589015afd8aa5d913d"), looks := false }, kinds := [], alts := [], laidByText := true, laidKinds := [.data, .data, .data], laidTests := true, laidLooks := .later }
def FnExactFormTextUptoCardSaid : Prop := Claim7.holds Tryd.pinned (.plain (OpenSpec.upto fnExactFormTextSpec)) fnExactFormTextUptoCard

/-- THE SECOND FORM's CARD OF 'laws.FnExactAlgebraText'. -/
def fnExactAlgebraTextUptoCard : Claim7 := { stood := { row := fnExactAlgebraTextUptoRow, standIns := [], harness := (true, "42dfe4ee58aa75cff37c8fd705bd87ed3c60cf5af0e0ed589015afd8aa5d913d"), looks := false }, kinds := [], alts := [], laidByText := true, laidKinds := [.data, .data, .data], laidTests := true, laidLooks := .later }
def FnExactAlgebraTextUptoCardSaid : Prop := Claim7.holds Tryd.pinned (.plain (OpenSpec.upto fnExactAlgebraTextSpec)) fnExactAlgebraTextUptoCard
end Rows
end Go.Proofs.YtbjhllmcnfncdaaDoor
