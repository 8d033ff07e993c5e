/-
  DERIVED. GIVEN WITH THE SEED: THE PROGRAM's TIES (one call each: nine closed facts by the kernel) AND EACH ROW's TIE, after the 31st guide's Derived/Test/Toyas{Tie, Card}.lean. No idea stands in it: it is a product of the set-up. Laid BY PROGRAM, IN A SANDBOX (cutbox-door.mjs). By AI agents, Wed Nov 11 2026. No macro, syntax, notation, axiom, sorry.
-/
import Derived.Test.YtafhljljfglfeaaGreatDoorRows
import Derived.LaidByTextLater
import Derived.SevenTiedAt
import Derived.LaidSub
import Derived.LaidOnce
namespace Go.Proofs.YtafhljljfglfeaaGreatDoor
open Go
set_option maxRecDepth 100000
theorem seatTie1 : Tryz.prog.laidByTextLater [("prow/tally.ends", Rows.laid_prow_tally_ends), ("prow/ticket.nobody", Rows.laid_prow_ticket_nobody), ("prow/ticket.asks", Rows.laid_prow_ticket_asks)] [.funcs, .data, .funcs] true :=
  Program.laidByTextLater_by_one 24 8 3 (by kernel_rfl) (by kernel_rfl) (by kernel_rfl) (by kernel_rfl) (by kernel_rfl) (by kernel_rfl) (fun _ _ => by kernel_rfl)
theorem noOwnUnsafe : Tryz.pinned.checked.prog.headLifts.contains "ownunsafe" = false := by kernel_rfl
theorem tie : Tryz.prog.laidByTextLater [("prow/tally.ends", Rows.laid_prow_tally_ends), ("prow/ticket.nobody", Rows.laid_prow_ticket_nobody), ("prow/ticket.asks", Rows.laid_prow_ticket_asks)] [.funcs, .data, .funcs] true :=
  Program.laidByTextLater.sub seatTie1 ["prow/tally.ends", "prow/ticket.nobody", "prow/ticket.asks"] (by kernel_rfl) (by kernel_rfl)
theorem ticketPays_row_tie : Rows.ticketPaysRow.laidByTextAt .later Tryz.pinned [.funcs, .data, .funcs] true :=
  OpenClaim.laidByTextAt_later rfl rfl tie noOwnUnsafe
theorem ticketUses_row_tie : Rows.ticketUsesRow.laidByTextAt .later Tryz.pinned [.funcs, .data, .funcs] true :=
  OpenClaim.laidByTextAt_later rfl rfl tie noOwnUnsafe
theorem ticketWrongs_row_tie : Rows.ticketWrongsRow.laidByTextAt .later Tryz.pinned [.funcs, .data, .funcs] true :=
  OpenClaim.laidByTextAt_later rfl rfl tie noOwnUnsafe
theorem ticketPaysUpto_row_tie : Rows.ticketPaysUptoRow.laidByTextAt .later Tryz.pinned [.funcs, .data, .funcs] true :=
  OpenClaim.laidByTextAt_later rfl rfl tie noOwnUnsafe
theorem ticketUsesUpto_row_tie : Rows.ticketUsesUptoRow.laidByTextAt .later Tryz.pinned [.funcs, .data, .funcs] true :=
  OpenClaim.laidByTextAt_later rfl rfl tie noOwnUnsafe
theorem ticketWrongsUpto_row_tie : Rows.ticketWrongsUptoRow.laidByTextAt .later Tryz.pinned [.funcs, .data, .funcs] true :=
  OpenClaim.laidByTextAt_later rfl rfl tie noOwnUnsafe
end Go.Proofs.YtafhljljfglfeaaGreatDoor
