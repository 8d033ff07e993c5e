/-
  DERIVED. GIVEN WITH THE SEED: THE PROGRAM's TIES (one call each: nine closed facts by the kernel) AND EACH ROW's TIE, after the 31st guide's Derived/Test/Toyas{Tie, Card}.lean. No idea stands in it: it is a product of the set-up. Laid BY PROGRAM, IN A SANDBOX (cutbox-door.mjs). By AI agents, Wed Nov 11 2026. No macro, syntax, notation, axiom, sorry.
-/
import Derived.Test.YtblfippmobpaaaaDoorRows
import Derived.LaidByTextLater
import Derived.SevenTiedAt
import Derived.LaidSub
import Derived.LaidOnce
namespace Go.Proofs.YtblfippmobpaaaaDoor
open Go
set_option maxRecDepth 100000
theorem seatTie1 : Tryd.prog.laidByTextLater [("prow/chain.nowhere", Rows.laid_prow_chain_nowhere), ("prow/chain.thins", Rows.laid_prow_chain_thins), ("prow/coal.still", Rows.laid_prow_coal_still), ("prow/tally.ends", Rows.laid_prow_tally_ends), ("prow/tally.nothing", Rows.laid_prow_tally_nothing)] [.data, .funcs, .data, .funcs, .data] true :=
  Program.laidByTextLater_by_one 34 8 3 (by kernel_rfl) (by kernel_rfl) (by kernel_rfl) (by kernel_rfl) (by kernel_rfl) (by kernel_rfl) (fun _ _ => by kernel_rfl)
theorem noOwnUnsafe : Tryd.pinned.checked.prog.headLifts.contains "ownunsafe" = false := by kernel_rfl
theorem tie : Tryd.prog.laidByTextLater [("prow/chain.nowhere", Rows.laid_prow_chain_nowhere), ("prow/chain.thins", Rows.laid_prow_chain_thins), ("prow/coal.still", Rows.laid_prow_coal_still), ("prow/tally.ends", Rows.laid_prow_tally_ends), ("prow/tally.nothing", Rows.laid_prow_tally_nothing)] [.data, .funcs, .data, .funcs, .data] true :=
  Program.laidByTextLater.sub seatTie1 ["prow/chain.nowhere", "prow/chain.thins", "prow/coal.still", "prow/tally.ends", "prow/tally.nothing"] (by kernel_rfl) (by kernel_rfl)
theorem topEaten_row_tie : Rows.topEatenRow.laidByTextAt .later Tryd.pinned [.data, .funcs, .data, .funcs, .data] true :=
  OpenClaim.laidByTextAt_later rfl rfl tie noOwnUnsafe
theorem topFuel_row_tie : Rows.topFuelRow.laidByTextAt .later Tryd.pinned [.data, .funcs, .data, .funcs, .data] true :=
  OpenClaim.laidByTextAt_later rfl rfl tie noOwnUnsafe
theorem topEatenUpto_row_tie : Rows.topEatenUptoRow.laidByTextAt .later Tryd.pinned [.data, .funcs, .data, .funcs, .data] true :=
  OpenClaim.laidByTextAt_later rfl rfl tie noOwnUnsafe
theorem topFuelUpto_row_tie : Rows.topFuelUptoRow.laidByTextAt .later Tryd.pinned [.data, .funcs, .data, .funcs, .data] true :=
  OpenClaim.laidByTextAt_later rfl rfl tie noOwnUnsafe
end Go.Proofs.YtblfippmobpaaaaDoor
