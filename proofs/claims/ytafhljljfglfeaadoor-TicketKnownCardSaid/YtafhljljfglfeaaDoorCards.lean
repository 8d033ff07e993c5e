/-
  DERIVED. GIVEN WITH THE SEED: THE CARDS: each row of YtafhljljfglfeaaDoorRows.lean that lists a variable, with what it lists TIED to the program's text (the seventh form; the later family's looks); each row that meets fmt, with fmt's text TOLD by the authors' own Lean function (tested against real Go, not proved from fmt's source: count such statements apart). THE CARD IS WHAT COUNTS. Prove the row's statement (the work); the ties are given (YtafhljljfglfeaaDoorTie.lean); close each card by the builder's one call (the guide's Derived/Test/ToyasCard.lean, 'card_holds'). Laid BY PROGRAM, IN A SANDBOX (cutbox-door.mjs). By AI agents, Wed Nov 11 2026. No macro, syntax, notation, axiom, sorry.
-/
import Derived.Test.YtafhljljfglfeaaDoorRows
import GoSem.ClaimSeven
namespace Go.Proofs.YtafhljljfglfeaaDoor
namespace Rows

/-- THE TIED CARD OF 'prowlaw10.TicketTrue'. -/
def ticketTrueCard : Claim7 := { stood := { row := ticketTrueRow, standIns := [], harness := (true, "89987b2e6c4f53d027ae028f07da59bb4f9149e470cb58708882e454f0cc880f"), looks := false }, kinds := [], alts := [], laidByText := true, laidKinds := [.funcs, .data, .funcs], laidTests := true, laidLooks := .later }
def TicketTrueCardSaid : Prop := Claim7.holds Tryd.pinned (.plain (OpenSpec.ofChange ticketTrueSpec)) ticketTrueCard

/-- THE TIED CARD OF 'prowlaw10.TicketShown'. -/
def ticketShownCard : Claim7 := { stood := { row := ticketShownRow, standIns := [], harness := (true, "89987b2e6c4f53d027ae028f07da59bb4f9149e470cb58708882e454f0cc880f"), looks := false }, kinds := [], alts := [], laidByText := true, laidKinds := [.funcs, .data, .funcs], laidTests := true, laidLooks := .later }
def TicketShownCardSaid : Prop := Claim7.holds Tryd.pinned (.plain (OpenSpec.ofChange ticketShownSpec)) ticketShownCard

/-- THE TIED CARD OF 'prowlaw10.TicketClash'. -/
def ticketClashCard : Claim7 := { stood := { row := ticketClashRow, standIns := [], harness := (true, "89987b2e6c4f53d027ae028f07da59bb4f9149e470cb58708882e454f0cc880f"), looks := false }, kinds := [], alts := [], laidByText := true, laidKinds := [.funcs, .data, .funcs], laidTests := true, laidLooks := .later }
def TicketClashCardSaid : Prop := Claim7.holds Tryd.pinned (.plain (OpenSpec.ofChange ticketClashSpec)) ticketClashCard

/-- THE TIED CARD OF 'prowlaw10.TicketBox'. -/
def ticketBoxCard : Claim7 := { stood := { row := ticketBoxRow, standIns := [], harness := (true, "89987b2e6c4f53d027ae028f07da59bb4f9149e470cb58708882e454f0cc880f"), looks := false }, kinds := [], alts := [], laidByText := true, laidKinds := [.funcs, .data, .funcs], laidTests := true, laidLooks := .later }
def TicketBoxCardSaid : Prop := Claim7.holds Tryd.pinned (.plain (OpenSpec.ofChange ticketBoxSpec)) ticketBoxCard

/-- THE TIED CARD OF 'prowlaw10.TicketEnds'. -/
def ticketEndsCard : Claim7 := { stood := { row := ticketEndsRow, standIns := [], harness := (true, "89987b2e6c4f53d027ae028f07da59bb4f9149e470cb58708882e454f0cc880f"), looks := false }, kinds := [], alts := [], laidByText := true, laidKinds := [.funcs, .data, .funcs], laidTests := true, laidLooks := .later }
def TicketEndsCardSaid : Prop := Claim7.holds Tryd.pinned (.plain (OpenSpec.ofChange ticketEndsSpec)) ticketEndsCard

/-- THE TIED CARD OF 'prowlaw10.TicketKnown'. -/
def ticketKnownCard : Claim7 := { stood := { row := ticketKnownRow, standIns := [], harness := (true, "89987b2e6c4f53d027ae028f07da59bb4f9149e470cb58708882e454f0cc880f"), looks := false }, kinds := [], alts := [], laidByText := true, laidKinds := [.funcs, .data, .funcs], laidTests := true, laidLooks := .later }
def TicketKnownCardSaid : Prop := Claim7.holds Tryd.pinned (.plain (OpenSpec.ofChange ticketKnownSpec)) ticketKnownCard

/-- THE TIED CARD OF 'prowlaw10.TicketWrong'. -/
def ticketWrongCard : Claim7 := { stood := { row := ticketWrongRow, standIns := [], harness := (true, "89987b2e6c4f53d027ae028f07da59bb4f9149e470cb58708882e454f0cc880f"), looks := false }, kinds := [], alts := [], laidByText := true, laidKinds := [.funcs, .data, .data, .funcs], laidTests := true, laidLooks := .later }
def TicketWrongCardSaid : Prop := Claim7.holds Tryd.pinned (.plain (OpenSpec.ofChange ticketWrongSpec)) ticketWrongCard

/-- THE TIED CARD OF 'prowlaw10.TicketTrips'. -/
def ticketTripsCard : Claim7 := { stood := { row := ticketTripsRow, standIns := [], harness := (true, "89987b2e6c4f53d027ae028f07da59bb4f9149e470cb58708882e454f0cc880f"), looks := false }, kinds := [], alts := [], laidByText := true, laidKinds := [.funcs, .data, .data, .funcs], laidTests := true, laidLooks := .later }
def TicketTripsCardSaid : Prop := Claim7.holds Tryd.pinned (.plain (OpenSpec.ofChange ticketTripsSpec)) ticketTripsCard

/-- THE TIED CARD OF 'prowlaw10.TicketNone'. -/
def ticketNoneCard : Claim7 := { stood := { row := ticketNoneRow, standIns := [], harness := (true, "89987b2e6c4f53d027ae028f07da59bb4f9149e470cb58708882e454f0cc880f"), looks := false }, kinds := [], alts := [], laidByText := true, laidKinds := [.funcs, .data, .data, .funcs], laidTests := true, laidLooks := .later }
def TicketNoneCardSaid : Prop := Claim7.holds Tryd.pinned (.plain (OpenSpec.ofChange ticketNoneSpec)) ticketNoneCard

/-- THE SECOND FORM's CARD OF 'prowlaw10.TicketTrue'. -/
def ticketTrueUptoCard : Claim7 := { stood := { row := ticketTrueUptoRow, standIns := [], harness := (true, "89987b2e6c4f53d027ae028f07da59bb4f9149e470cb58708882e454f0cc880f"), looks := false }, kinds := [], alts := [], laidByText := true, laidKinds := [.funcs, .data, .funcs], laidTests := true, laidLooks := .later }
def TicketTrueUptoCardSaid : Prop := Claim7.holds Tryd.pinned (.plain (OpenSpec.upto ticketTrueSpec)) ticketTrueUptoCard

/-- THE SECOND FORM's CARD OF 'prowlaw10.TicketShown'. -/
def ticketShownUptoCard : Claim7 := { stood := { row := ticketShownUptoRow, standIns := [], harness := (true, "89987b2e6c4f53d027ae028f07da59bb4f9149e470cb58708882e454f0cc880f"), looks := false }, kinds := [], alts := [], laidByText := true, laidKinds := [.funcs, .data, .funcs], laidTests := true, laidLooks := .later }
def TicketShownUptoCardSaid : Prop := Claim7.holds Tryd.pinned (.plain (OpenSpec.upto ticketShownSpec)) ticketShownUptoCard

/-- THE SECOND FORM's CARD OF 'prowlaw10.TicketClash'. -/
def ticketClashUptoCard : Claim7 := { stood := { row := ticketClashUptoRow, standIns := [], harness := (true, "89987b2e6c4f53d027ae028f07da59bb4f9149e470cb58708882e454f0cc880f"), looks := false }, kinds := [], alts := [], laidByText := true, laidKinds := [.funcs, .data, .funcs], laidTests := true, laidLooks := .later }
def TicketClashUptoCardSaid : Prop := Claim7.holds Tryd.pinned (.plain (OpenSpec.upto ticketClashSpec)) ticketClashUptoCard

/-- THE SECOND FORM's CARD OF 'prowlaw10.TicketBox'. -/
def ticketBoxUptoCard : Claim7 := { stood := { row := ticketBoxUptoRow, standIns := [], harness := (true, "89987b2e6c4f53d027ae028f07da59bb4f9149e470cb58708882e454f0cc880f"), looks := false }, kinds := [], alts := [], laidByText := true, laidKinds := [.funcs, .data, .funcs], laidTests := true, laidLooks := .later }
def TicketBoxUptoCardSaid : Prop := Claim7.holds Tryd.pinned (.plain (OpenSpec.upto ticketBoxSpec)) ticketBoxUptoCard

/-- THE SECOND FORM's CARD OF 'prowlaw10.TicketEnds'. -/
def ticketEndsUptoCard : Claim7 := { stood := { row := ticketEndsUptoRow, standIns := [], harness := (true, "89987b2e6c4f53d027ae028f07da59bb4f9149e470cb58708882e454f0cc880f"), looks := false }, kinds := [], alts := [], laidByText := true, laidKinds := [.funcs, .data, .funcs], laidTests := true, laidLooks := .later }
def TicketEndsUptoCardSaid : Prop := Claim7.holds Tryd.pinned (.plain (OpenSpec.upto ticketEndsSpec)) ticketEndsUptoCard

/-- THE SECOND FORM's CARD OF 'prowlaw10.TicketKnown'. -/
def ticketKnownUptoCard : Claim7 := { stood := { row := ticketKnownUptoRow, standIns := [], harness := (true, "89987b2e6c4f53d027ae028f07da59bb4f9149e470cb58708882e454f0cc880f"), looks := false }, kinds := [], alts := [], laidByText := true, laidKinds := [.funcs, .data, .funcs], laidTests := true, laidLooks := .later }
def TicketKnownUptoCardSaid : Prop := Claim7.holds Tryd.pinned (.plain (OpenSpec.upto ticketKnownSpec)) ticketKnownUptoCard

/-- THE SECOND FORM's CARD OF 'prowlaw10.TicketWrong'. -/
def ticketWrongUptoCard : Claim7 := { stood := { row := ticketWrongUptoRow, standIns := [], harness := (true, "89987b2e6c4f53d027ae028f07da59bb4f9149e470cb58708882e454f0cc880f"), looks := false }, kinds := [], alts := [], laidByText := true, laidKinds := [.funcs, .data, .data, .funcs], laidTests := true, laidLooks := .later }
def TicketWrongUptoCardSaid : Prop := Claim7.holds Tryd.pinned (.plain (OpenSpec.upto ticketWrongSpec)) ticketWrongUptoCard

/-- THE SECOND FORM's CARD OF 'prowlaw10.TicketTrips'. -/
def ticketTripsUptoCard : Claim7 := { stood := { row := ticketTripsUptoRow, standIns := [], harness := (true, "89987b2e6c4f53d027ae028f07da59bb4f9149e470cb58708882e454f0cc880f"), looks := false }, kinds := [], alts := [], laidByText := true, laidKinds := [.funcs, .data, .data, .funcs], laidTests := true, laidLooks := .later }
def TicketTripsUptoCardSaid : Prop := Claim7.holds Tryd.pinned (.plain (OpenSpec.upto ticketTripsSpec)) ticketTripsUptoCard

/-- THE SECOND FORM's CARD OF 'prowlaw10.TicketNone'. -/
def ticketNoneUptoCard : Claim7 := { stood := { row := ticketNoneUptoRow, standIns := [], harness := (true, "89987b2e6c4f53d027ae028f07da59bb4f9149e470cb58708882e454f0cc880f"), looks := false }, kinds := [], alts := [], laidByText := true, laidKinds := [.funcs, .data, .data, .funcs], laidTests := true, laidLooks := .later }
def TicketNoneUptoCardSaid : Prop := Claim7.holds Tryd.pinned (.plain (OpenSpec.upto ticketNoneSpec)) ticketNoneUptoCard
end Rows
end Go.Proofs.YtafhljljfglfeaaDoor
