/-
  DERIVED. GIVEN WITH THE SEED: THE CARDS: each row of YtblfippmobpaaaaDoorRows.lean that lists a variable, with what it lists TIED to the program's text (the seventh form; the later family's looks); each row that meets fmt, with fmt's text TOLD by the authors' own Lean function (tested against real Go, not proved from fmt's source: count such statements apart). THE CARD IS WHAT COUNTS. Prove the row's statement (the work); the ties are given (YtblfippmobpaaaaDoorTie.lean); close each card by the builder's one call (the guide's Derived/Test/ToyasCard.lean, 'card_holds'). Laid BY PROGRAM, IN A SANDBOX (cutbox-door.mjs). By AI agents, Wed Nov 11 2026. No macro, syntax, notation, axiom, sorry.
-/
import Derived.Test.YtblfippmobpaaaaDoorRows
import GoSem.ClaimSeven
namespace Go.Proofs.YtblfippmobpaaaaDoor
namespace Rows

/-- THE TIED CARD OF 'prowtop.TopEaten'. -/
def topEatenCard : Claim7 := { stood := { row := topEatenRow, standIns := [], harness := (true, "f116028c560242e8b8e69f21aa3de8b78978b7f4c21145d5ba66c4457b9d56ba"), looks := false }, kinds := [], alts := [], laidByText := true, laidKinds := [.data, .funcs, .data, .funcs, .data], laidTests := true, laidLooks := .later }
def TopEatenCardSaid : Prop := Claim7.holds Tryd.pinned (.plain (OpenSpec.ofChange topEatenSpec)) topEatenCard

/-- THE TIED CARD OF 'prowtop.TopFuel'. -/
def topFuelCard : Claim7 := { stood := { row := topFuelRow, standIns := [], harness := (true, "f116028c560242e8b8e69f21aa3de8b78978b7f4c21145d5ba66c4457b9d56ba"), looks := false }, kinds := [], alts := [], laidByText := true, laidKinds := [.data, .funcs, .data, .funcs, .data], laidTests := true, laidLooks := .later }
def TopFuelCardSaid : Prop := Claim7.holds Tryd.pinned (.plain (OpenSpec.ofChange topFuelSpec)) topFuelCard

/-- THE SECOND FORM's CARD OF 'prowtop.TopEaten'. -/
def topEatenUptoCard : Claim7 := { stood := { row := topEatenUptoRow, standIns := [], harness := (true, "f116028c560242e8b8e69f21aa3de8b78978b7f4c21145d5ba66c4457b9d56ba"), looks := false }, kinds := [], alts := [], laidByText := true, laidKinds := [.data, .funcs, .data, .funcs, .data], laidTests := true, laidLooks := .later }
def TopEatenUptoCardSaid : Prop := Claim7.holds Tryd.pinned (.plain (OpenSpec.upto topEatenSpec)) topEatenUptoCard

/-- THE SECOND FORM's CARD OF 'prowtop.TopFuel'. -/
def topFuelUptoCard : Claim7 := { stood := { row := topFuelUptoRow, standIns := [], harness := (true, "f116028c560242e8b8e69f21aa3de8b78978b7f4c21145d5ba66c4457b9d56ba"), looks := false }, kinds := [], alts := [], laidByText := true, laidKinds := [.data, .funcs, .data, .funcs, .data], laidTests := true, laidLooks := .later }
def TopFuelUptoCardSaid : Prop := Claim7.holds Tryd.pinned (.plain (OpenSpec.upto topFuelSpec)) topFuelUptoCard
end Rows
end Go.Proofs.YtblfippmobpaaaaDoor
