/-
  DERIVED. GIVEN WITH THE SEED: THE CARDS: each row of YtplpalmabgjibaaDoorRows.lean that lists a variable, with what it lists TIED to the program's text (the seventh form; the later family's looks); each row that meets fmt, with fmt's text TOLD by the authors' own Lean function (tested against real Go, not proved from fmt's source: count such statements apart). THE CARD IS WHAT COUNTS. Prove the row's statement (the work); the ties are given (YtplpalmabgjibaaDoorTie.lean); close each card by the builder's one call (the guide's Derived/Test/ToyasCard.lean, 'card_holds'). Laid BY PROGRAM, IN A SANDBOX (cutbox-door.mjs). By AI agents, Wed Nov 11 2026. No macro, syntax, notation, axiom, sorry.
-/
import Derived.Test.YtplpalmabgjibaaDoorRows
import GoSem.ClaimSeven
namespace Go.Proofs.YtplpalmabgjibaaDoor
namespace Rows

/-- THE TIED CARD OF 'prowlaw05.TallyManys'. -/
def tallyManysCard : Claim7 := { stood := { row := tallyManysRow, standIns := [], harness := (true, "70e195dc5b719abea7fd18afb7077aade73febe6db5e1564f107283e301a5484"), looks := false }, kinds := [], alts := [], laidByText := true, laidKinds := [.funcs, .data], laidTests := true, laidLooks := .later }
def TallyManysCardSaid : Prop := Claim7.holds Tryd.pinned (.plain (OpenSpec.ofChange tallyManysSpec)) tallyManysCard

/-- THE TIED CARD OF 'prowlaw05.TallyCans'. -/
def tallyCansCard : Claim7 := { stood := { row := tallyCansRow, standIns := [], harness := (true, "70e195dc5b719abea7fd18afb7077aade73febe6db5e1564f107283e301a5484"), looks := false }, kinds := [], alts := [], laidByText := true, laidKinds := [.funcs, .data], laidTests := true, laidLooks := .later }
def TallyCansCardSaid : Prop := Claim7.holds Tryd.pinned (.plain (OpenSpec.ofChange tallyCansSpec)) tallyCansCard

/-- THE TIED CARD OF 'prowlaw05.TallyWrongs'. -/
def tallyWrongsCard : Claim7 := { stood := { row := tallyWrongsRow, standIns := [], harness := (true, "70e195dc5b719abea7fd18afb7077aade73febe6db5e1564f107283e301a5484"), looks := false }, kinds := [], alts := [], laidByText := true, laidKinds := [.funcs, .data], laidTests := true, laidLooks := .later }
def TallyWrongsCardSaid : Prop := Claim7.holds Tryd.pinned (.plain (OpenSpec.ofChange tallyWrongsSpec)) tallyWrongsCard

/-- THE TIED CARD OF 'prowlaw05.TallyTrue'. -/
def tallyTrueCard : Claim7 := { stood := { row := tallyTrueRow, standIns := [], harness := (true, "70e195dc5b719abea7fd18afb7077aade73febe6db5e1564f107283e301a5484"), looks := false }, kinds := [], alts := [], laidByText := true, laidKinds := [.funcs, .data], laidTests := true, laidLooks := .later }
def TallyTrueCardSaid : Prop := Claim7.holds Tryd.pinned (.plain (OpenSpec.ofChange tallyTrueSpec)) tallyTrueCard

/-- THE TIED CARD OF 'prowlaw05.TallyEach'. -/
def tallyEachCard : Claim7 := { stood := { row := tallyEachRow, standIns := [], harness := (true, "70e195dc5b719abea7fd18afb7077aade73febe6db5e1564f107283e301a5484"), looks := false }, kinds := [], alts := [], laidByText := true, laidKinds := [.funcs, .data], laidTests := true, laidLooks := .later }
def TallyEachCardSaid : Prop := Claim7.holds Tryd.pinned (.plain (OpenSpec.ofChange tallyEachSpec)) tallyEachCard

/-- THE TIED CARD OF 'prowlaw05.TallySum'. -/
def tallySumCard : Claim7 := { stood := { row := tallySumRow, standIns := [], harness := (true, "70e195dc5b719abea7fd18afb7077aade73febe6db5e1564f107283e301a5484"), looks := false }, kinds := [], alts := [], laidByText := true, laidKinds := [.funcs, .data], laidTests := true, laidLooks := .later }
def TallySumCardSaid : Prop := Claim7.holds Tryd.pinned (.plain (OpenSpec.ofChange tallySumSpec)) tallySumCard

/-- THE TIED CARD OF 'prowlaw05.TallyMore'. -/
def tallyMoreCard : Claim7 := { stood := { row := tallyMoreRow, standIns := [], harness := (true, "70e195dc5b719abea7fd18afb7077aade73febe6db5e1564f107283e301a5484"), looks := false }, kinds := [], alts := [], laidByText := true, laidKinds := [.funcs, .data], laidTests := true, laidLooks := .later }
def TallyMoreCardSaid : Prop := Claim7.holds Tryd.pinned (.plain (OpenSpec.ofChange tallyMoreSpec)) tallyMoreCard

/-- THE TIED CARD OF 'prowlaw05.TallyBack'. -/
def tallyBackCard : Claim7 := { stood := { row := tallyBackRow, standIns := [], harness := (true, "70e195dc5b719abea7fd18afb7077aade73febe6db5e1564f107283e301a5484"), looks := false }, kinds := [], alts := [], laidByText := true, laidKinds := [.funcs, .data], laidTests := true, laidLooks := .later }
def TallyBackCardSaid : Prop := Claim7.holds Tryd.pinned (.plain (OpenSpec.ofChange tallyBackSpec)) tallyBackCard

/-- THE TIED CARD OF 'prowlaw05.TallyWrong'. -/
def tallyWrongCard : Claim7 := { stood := { row := tallyWrongRow, standIns := [], harness := (true, "70e195dc5b719abea7fd18afb7077aade73febe6db5e1564f107283e301a5484"), looks := false }, kinds := [], alts := [], laidByText := true, laidKinds := [.funcs, .data], laidTests := true, laidLooks := .later }
def TallyWrongCardSaid : Prop := Claim7.holds Tryd.pinned (.plain (OpenSpec.ofChange tallyWrongSpec)) tallyWrongCard

/-- THE TIED CARD OF 'prowlaw05.TallyWhose'. -/
def tallyWhoseCard : Claim7 := { stood := { row := tallyWhoseRow, standIns := [], harness := (true, "70e195dc5b719abea7fd18afb7077aade73febe6db5e1564f107283e301a5484"), looks := false }, kinds := [], alts := [], laidByText := true, laidKinds := [.funcs, .data], laidTests := true, laidLooks := .later }
def TallyWhoseCardSaid : Prop := Claim7.holds Tryd.pinned (.plain (OpenSpec.ofChange tallyWhoseSpec)) tallyWhoseCard

/-- THE TIED CARD OF 'prowlaw05.TallyAgain'. -/
def tallyAgainCard : Claim7 := { stood := { row := tallyAgainRow, standIns := [], harness := (true, "70e195dc5b719abea7fd18afb7077aade73febe6db5e1564f107283e301a5484"), looks := false }, kinds := [], alts := [], laidByText := true, laidKinds := [.funcs, .data], laidTests := true, laidLooks := .later }
def TallyAgainCardSaid : Prop := Claim7.holds Tryd.pinned (.plain (OpenSpec.ofChange tallyAgainSpec)) tallyAgainCard

/-- THE TIED CARD OF 'prowlaw05.TallyPlain'. -/
def tallyPlainCard : Claim7 := { stood := { row := tallyPlainRow, standIns := [], harness := (true, "70e195dc5b719abea7fd18afb7077aade73febe6db5e1564f107283e301a5484"), looks := false }, kinds := [], alts := [], laidByText := true, laidKinds := [.funcs, .data], laidTests := true, laidLooks := .later }
def TallyPlainCardSaid : Prop := Claim7.holds Tryd.pinned (.plain (OpenSpec.ofChange tallyPlainSpec)) tallyPlainCard

/-- THE TIED CARD OF 'prowlaw05.TallyKnown'. -/
def tallyKnownCard : Claim7 := { stood := { row := tallyKnownRow, standIns := [], harness := (true, "70e195dc5b719abea7fd18afb7077aade73febe6db5e1564f107283e301a5484"), looks := false }, kinds := [], alts := [], laidByText := true, laidKinds := [.funcs, .data], laidTests := true, laidLooks := .later }
def TallyKnownCardSaid : Prop := Claim7.holds Tryd.pinned (.plain (OpenSpec.ofChange tallyKnownSpec)) tallyKnownCard

/-- THE SECOND FORM's CARD OF 'prowlaw05.TallyManys'. -/
def tallyManysUptoCard : Claim7 := { stood := { row := tallyManysUptoRow, standIns := [], harness := (true, "70e195dc5b719abea7fd18afb7077aade73febe6db5e1564f107283e301a5484"), looks := false }, kinds := [], alts := [], laidByText := true, laidKinds := [.funcs, .data], laidTests := true, laidLooks := .later }
def TallyManysUptoCardSaid : Prop := Claim7.holds Tryd.pinned (.plain (OpenSpec.upto tallyManysSpec)) tallyManysUptoCard

/-- THE SECOND FORM's CARD OF 'prowlaw05.TallyCans'. -/
def tallyCansUptoCard : Claim7 := { stood := { row := tallyCansUptoRow, standIns := [], harness := (true, "70e195dc5b719abea7fd18afb7077aade73febe6db5e1564f107283e301a5484"), looks := false }, kinds := [], alts := [], laidByText := true, laidKinds := [.funcs, .data], laidTests := true, laidLooks := .later }
def TallyCansUptoCardSaid : Prop := Claim7.holds Tryd.pinned (.plain (OpenSpec.upto tallyCansSpec)) tallyCansUptoCard

/-- THE SECOND FORM's CARD OF 'prowlaw05.TallyWrongs'. -/
def tallyWrongsUptoCard : Claim7 := { stood := { row := tallyWrongsUptoRow, standIns := [], harness := (true, "70e195dc5b719abea7fd18afb7077aade73febe6db5e1564f107283e301a5484"), looks := false }, kinds := [], alts := [], laidByText := true, laidKinds := [.funcs, .data], laidTests := true, laidLooks := .later }
def TallyWrongsUptoCardSaid : Prop := Claim7.holds Tryd.pinned (.plain (OpenSpec.upto tallyWrongsSpec)) tallyWrongsUptoCard

/-- THE SECOND FORM's CARD OF 'prowlaw05.TallyTrue'. -/
def tallyTrueUptoCard : Claim7 := { stood := { row := tallyTrueUptoRow, standIns := [], harness := (true, "70e195dc5b719abea7fd18afb7077aade73febe6db5e1564f107283e301a5484"), looks := false }, kinds := [], alts := [], laidByText := true, laidKinds := [.funcs, .data], laidTests := true, laidLooks := .later }
def TallyTrueUptoCardSaid : Prop := Claim7.holds Tryd.pinned (.plain (OpenSpec.upto tallyTrueSpec)) tallyTrueUptoCard

/-- THE SECOND FORM's CARD OF 'prowlaw05.TallyEach'. -/
def tallyEachUptoCard : Claim7 := { stood := { row := tallyEachUptoRow, standIns := [], harness := (true, "70e195dc5b719abea7fd18afb7077aade73febe6db5e1564f107283e301a5484"), looks := false }, kinds := [], alts := [], laidByText := true, laidKinds := [.funcs, .data], laidTests := true, laidLooks := .later }
def TallyEachUptoCardSaid : Prop := Claim7.holds Tryd.pinned (.plain (OpenSpec.upto tallyEachSpec)) tallyEachUptoCard

/-- THE SECOND FORM's CARD OF 'prowlaw05.TallySum'. -/
def tallySumUptoCard : Claim7 := { stood := { row := tallySumUptoRow, standIns := [], harness := (true, "70e195dc5b719abea7fd18afb7077aade73febe6db5e1564f107283e301a5484"), looks := false }, kinds := [], alts := [], laidByText := true, laidKinds := [.funcs, .data], laidTests := true, laidLooks := .later }
def TallySumUptoCardSaid : Prop := Claim7.holds Tryd.pinned (.plain (OpenSpec.upto tallySumSpec)) tallySumUptoCard

/-- THE SECOND FORM's CARD OF 'prowlaw05.TallyMore'. -/
def tallyMoreUptoCard : Claim7 := { stood := { row := tallyMoreUptoRow, standIns := [], harness := (true, "70e195dc5b719abea7fd18afb7077aade73febe6db5e1564f107283e301a5484"), looks := false }, kinds := [], alts := [], laidByText := true, laidKinds := [.funcs, .data], laidTests := true, laidLooks := .later }
def TallyMoreUptoCardSaid : Prop := Claim7.holds Tryd.pinned (.plain (OpenSpec.upto tallyMoreSpec)) tallyMoreUptoCard

/-- THE SECOND FORM's CARD OF 'prowlaw05.TallyBack'. -/
def tallyBackUptoCard : Claim7 := { stood := { row := tallyBackUptoRow, standIns := [], harness := (true, "70e195dc5b719abea7fd18afb7077aade73febe6db5e1564f107283e301a5484"), looks := false }, kinds := [], alts := [], laidByText := true, laidKinds := [.funcs, .data], laidTests := true, laidLooks := .later }
def TallyBackUptoCardSaid : Prop := Claim7.holds Tryd.pinned (.plain (OpenSpec.upto tallyBackSpec)) tallyBackUptoCard

/-- THE SECOND FORM's CARD OF 'prowlaw05.TallyWrong'. -/
def tallyWrongUptoCard : Claim7 := { stood := { row := tallyWrongUptoRow, standIns := [], harness := (true, "70e195dc5b719abea7fd18afb7077aade73febe6db5e1564f107283e301a5484"), looks := false }, kinds := [], alts := [], laidByText := true, laidKinds := [.funcs, .data], laidTests := true, laidLooks := .later }
def TallyWrongUptoCardSaid : Prop := Claim7.holds Tryd.pinned (.plain (OpenSpec.upto tallyWrongSpec)) tallyWrongUptoCard

/-- THE SECOND FORM's CARD OF 'prowlaw05.TallyWhose'. -/
def tallyWhoseUptoCard : Claim7 := { stood := { row := tallyWhoseUptoRow, standIns := [], harness := (true, "70e195dc5b719abea7fd18afb7077aade73febe6db5e1564f107283e301a5484"), looks := false }, kinds := [], alts := [], laidByText := true, laidKinds := [.funcs, .data], laidTests := true, laidLooks := .later }
def TallyWhoseUptoCardSaid : Prop := Claim7.holds Tryd.pinned (.plain (OpenSpec.upto tallyWhoseSpec)) tallyWhoseUptoCard

/-- THE SECOND FORM's CARD OF 'prowlaw05.TallyAgain'. -/
def tallyAgainUptoCard : Claim7 := { stood := { row := tallyAgainUptoRow, standIns := [], harness := (true, "70e195dc5b719abea7fd18afb7077aade73febe6db5e1564f107283e301a5484"), looks := false }, kinds := [], alts := [], laidByText := true, laidKinds := [.funcs, .data], laidTests := true, laidLooks := .later }
def TallyAgainUptoCardSaid : Prop := Claim7.holds Tryd.pinned (.plain (OpenSpec.upto tallyAgainSpec)) tallyAgainUptoCard

/-- THE SECOND FORM's CARD OF 'prowlaw05.TallyPlain'. -/
def tallyPlainUptoCard : Claim7 := { stood := { row := tallyPlainUptoRow, standIns := [], harness := (true, "70e195dc5b719abea7fd18afb7077aade73febe6db5e1564f107283e301a5484"), looks := false }, kinds := [], alts := [], laidByText := true, laidKinds := [.funcs, .data], laidTests := true, laidLooks := .later }
def TallyPlainUptoCardSaid : Prop := Claim7.holds Tryd.pinned (.plain (OpenSpec.upto tallyPlainSpec)) tallyPlainUptoCard

/-- THE SECOND FORM's CARD OF 'prowlaw05.TallyKnown'. -/
def tallyKnownUptoCard : Claim7 := { stood := { row := tallyKnownUptoRow, standIns := [], harness := (true, "70e195dc5b719abea7fd18afb7077aade73febe6db5e1564f107283e301a5484"), looks := false }, kinds := [], alts := [], laidByText := true, laidKinds := [.funcs, .data], laidTests := true, laidLooks := .later }
def TallyKnownUptoCardSaid : Prop := Claim7.holds Tryd.pinned (.plain (OpenSpec.upto tallyKnownSpec)) tallyKnownUptoCard
end Rows
end Go.Proofs.YtplpalmabgjibaaDoor
