/-
  DERIVED. GIVEN WITH THE SEED: THE CARDS: each row of YtceeocgpcagkjaaDoorRows.lean that lists a variable, with what it lists TIED to the program's text (the seventh form; the later family's looks); each row that meets fmt, with fmt's text TOLD by the authors' own Lean function (tested against real Go, not proved from fmt's source: count such statements apart). THE CARD IS WHAT COUNTS. Prove the row's statement (the work); the ties are given (YtceeocgpcagkjaaDoorTie.lean); close each card by the builder's one call (the guide's Derived/Test/ToyasCard.lean, 'card_holds'). Laid BY PROGRAM, IN A SANDBOX (cutbox-door.mjs). By AI agents, Wed Nov 11 2026. No macro, syntax, notation, axiom, sorry.
-/
import Derived.Test.YtceeocgpcagkjaaDoorRows
import GoSem.ClaimSeven
namespace Go.Proofs.YtceeocgpcagkjaaDoor
namespace Rows

/-- THE TIED CARD OF 'laws.FnDivided'. -/
def fnDividedCard : Claim7 := { stood := { row := fnDividedRow, standIns := [], harness := (true, "be15e328d5c1c0a267d53d45d08711ba75da7d6eb44d3c5bf33491057af2bc51"), looks := false }, kinds := [], alts := [], laidByText := true, laidKinds := [.data], laidTests := true, laidLooks := .later }
def FnDividedCardSaid : Prop := Claim7.holds Tryd.pinned (.plain (OpenSpec.ofChange fnDividedSpec)) fnDividedCard

/-- THE SECOND FORM's CARD OF 'laws.FnDivided'. -/
def fnDividedUptoCard : Claim7 := { stood := { row := fnDividedUptoRow, standIns := [], harness := (true, "be15e328d5c1c0a267d53d45d08711ba75da7d6eb44d3c5bf33491057af2bc51"), looks := false }, kinds := [], alts := [], laidByText := true, laidKinds := [.data], laidTests := true, laidLooks := .later }
def FnDividedUptoCardSaid : Prop := Claim7.holds Tryd.pinned (.plain (OpenSpec.upto fnDividedSpec)) fnDividedUptoCard
end Rows
end Go.Proofs.YtceeocgpcagkjaaDoor
