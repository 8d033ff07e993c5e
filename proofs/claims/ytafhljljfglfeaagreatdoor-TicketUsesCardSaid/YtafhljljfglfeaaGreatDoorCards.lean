/-
  DERIVED. GIVEN WITH THE SEED: THE CARDS: each row of YtafhljljfglfeaaGreatDoorRows.lean that lists a variable, with what it lists TIED to the program's text (the seventh form; the later family's looks); each row that meets fmt, with fmt's text TOLD by the authors' own Lean function (tested against real Go, not proved from fmt's source: count such statements apart). THE CARD IS WHAT COUNTS. Prove the row's statement (the work); the ties are given (YtafhljljfglfeaaGreatDoorTie.lean); close each card by the builder's one call (the guide's Derived/Test/ToyasCard.lean, 'card_holds'). Laid BY PROGRAM, IN A SANDBOX (cutbox-door.mjs). By AI agents, Wed Nov 11 2026. No macro, syntax, notation, axiom, sorry.
-/
import Derived.Test.YtafhljljfglfeaaGreatDoorRows
import GoSem.ClaimSeven
namespace Go.Proofs.YtafhljljfglfeaaGreatDoor
namespace Rows

/-- THE TIED CARD OF 'prowlaw10.TicketPays'. -/
def ticketPaysCard : Claim7 := { stood := { row := ticketPaysRow, standIns := [], harness := (true, "69013a213d45a62d3bbd845827162917c309a0c85989b23a1bfb7204fff83396"), looks := false }, kinds := [], alts := [], laidByText := true, laidKinds := [.funcs, .data, .funcs], laidTests := true, laidLooks := .later }
def TicketPaysCardSaid : Prop := Claim7.holds Tryz.pinned (.plain (OpenSpec.ofChange ticketPaysSpec)) ticketPaysCard

/-- THE TIED CARD OF 'prowlaw10.TicketUses'. -/
def ticketUsesCard : Claim7 := { stood := { row := ticketUsesRow, standIns := [], harness := (true, "69013a213d45a62d3bbd845827162917c309a0c85989b23a1bfb7204fff83396"), looks := false }, kinds := [], alts := [], laidByText := true, laidKinds := [.funcs, .data, .funcs], laidTests := true, laidLooks := .later }
def TicketUsesCardSaid : Prop := Claim7.holds Tryz.pinned (.plain (OpenSpec.ofChange ticketUsesSpec)) ticketUsesCard

/-- THE TIED CARD OF 'prowlaw10.TicketWrongs'. -/
def ticketWrongsCard : Claim7 := { stood := { row := ticketWrongsRow, standIns := [], harness := (true, "69013a213d45a62d3bbd845827162917c309a0c85989b23a1bfb7204fff83396"), looks := false }, kinds := [], alts := [], laidByText := true, laidKinds := [.funcs, .data, .funcs], laidTests := true, laidLooks := .later }
def TicketWrongsCardSaid : Prop := Claim7.holds Tryz.pinned (.plain (OpenSpec.ofChange ticketWrongsSpec)) ticketWrongsCard

/-- THE SECOND FORM's CARD OF 'prowlaw10.TicketPays'. -/
def ticketPaysUptoCard : Claim7 := { stood := { row := ticketPaysUptoRow, standIns := [], harness := (true, "69013a213d45a62d3bbd845827162917c309a0c85989b23a1bfb7204fff83396"), looks := false }, kinds := [], alts := [], laidByText := true, laidKinds := [.funcs, .data, .funcs], laidTests := true, laidLooks := .later }
def TicketPaysUptoCardSaid : Prop := Claim7.holds Tryz.pinned (.plain (OpenSpec.upto ticketPaysSpec)) ticketPaysUptoCard

/-- THE SECOND FORM's CARD OF 'prowlaw10.TicketUses'. -/
def ticketUsesUptoCard : Claim7 := { stood := { row := ticketUsesUptoRow, standIns := [], harness := (true, "69013a213d45a62d3bbd845827162917c309a0c85989b23a1bfb7204fff83396"), looks := false }, kinds := [], alts := [], laidByText := true, laidKinds := [.funcs, .data, .funcs], laidTests := true, laidLooks := .later }
def TicketUsesUptoCardSaid : Prop := Claim7.holds Tryz.pinned (.plain (OpenSpec.upto ticketUsesSpec)) ticketUsesUptoCard

/-- THE SECOND FORM's CARD OF 'prowlaw10.TicketWrongs'. -/
def ticketWrongsUptoCard : Claim7 := { stood := { row := ticketWrongsUptoRow, standIns := [], harness := (true, "69013a213d45a62d3bbd845827162917c309a0c85989b23a1bfb7204fff83396"), looks := false }, kinds := [], alts := [], laidByText := true, laidKinds := [.funcs, .data, .funcs], laidTests := true, laidLooks := .later }
def TicketWrongsUptoCardSaid : Prop := Claim7.holds Tryz.pinned (.plain (OpenSpec.upto ticketWrongsSpec)) ticketWrongsUptoCard
end Rows
end Go.Proofs.YtafhljljfglfeaaGreatDoor
