/-
  DERIVED. GIVEN WITH THE SEED: THE CARDS: each row of YtgmkfhgebinfgaaDoorRows.lean that lists a variable, with what it lists TIED to the program's text (the seventh form; the later family's looks); each row that meets fmt, with fmt's text TOLD by the authors' own Lean function (tested against real Go, not proved from fmt's source: count such statements apart). THE CARD IS WHAT COUNTS. Prove the row's statement (the work); the ties are given (YtgmkfhgebinfgaaDoorTie.lean); close each card by the builder's one call (the guide's Derived/Test/ToyasCard.lean, 'card_holds'). Laid BY PROGRAM, IN A SANDBOX (cutbox-door.mjs). By AI agents, Wed Nov 11 2026. No macro, syntax, notation, axiom, sorry.
-/
import Derived.Test.YtgmkfhgebinfgaaDoorRows
import GoSem.ClaimSeven
namespace Go.Proofs.YtgmkfhgebinfgaaDoor
namespace Rows

/-- THE TIED CARD OF 'laws.FnExactJobParse'. -/
def fnExactJobParseCard : Claim7 := { stood := { row := fnExactJobParseRow, standIns := [], harness := (true, "8e1d066fb2f319dd179666ad091c30b16c555d7af4de7f30ab1f8e7a124bf733"), looks := true }, kinds := [], alts := [], laidByText := true, laidKinds := [.data, .data, .data, .sentinel, .sentinel], laidTests := true, laidLooks := .later }
def FnExactJobParseCardSaid : Prop := Claim7.holds Tryd.pinned (.plain (OpenSpec.ofChange fnExactJobParseSpec)) fnExactJobParseCard

/-- THE SECOND FORM's CARD OF 'laws.FnExactJobParse'. -/
def fnExactJobParseUptoCard : Claim7 := { stood := { row := fnExactJobParseUptoRow, standIns := [], harness := (true, "8e1d066fb2f319dd179666ad091c30b16c555d7af4de7f30ab1f8e7a124bf733"), looks := true }, kinds := [], alts := [], laidByText := true, laidKinds := [.data, .data, .data, .sentinel, .sentinel], laidTests := true, laidLooks := .later }
def FnExactJobParseUptoCardSaid : Prop := Claim7.holds Tryd.pinned (.plain (OpenSpec.upto fnExactJobParseSpec)) fnExactJobParseUptoCard
end Rows
end Go.Proofs.YtgmkfhgebinfgaaDoor
