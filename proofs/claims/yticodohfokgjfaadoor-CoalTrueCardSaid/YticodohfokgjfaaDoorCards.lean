/-
  DERIVED. GIVEN WITH THE SEED: THE CARDS: each row of YticodohfokgjfaaDoorRows.lean that lists a variable, with what it lists TIED to the program's text (the seventh form; the later family's looks); each row that meets fmt, with fmt's text TOLD by the authors' own Lean function (tested against real Go, not proved from fmt's source: count such statements apart). THE CARD IS WHAT COUNTS. Prove the row's statement (the work); the ties are given (YticodohfokgjfaaDoorTie.lean); close each card by the builder's one call (the guide's Derived/Test/ToyasCard.lean, 'card_holds'). Laid BY PROGRAM, IN A SANDBOX (cutbox-door.mjs). By AI agents, Wed Nov 11 2026. No macro, syntax, notation, axiom, sorry.
-/
import Derived.Test.YticodohfokgjfaaDoorRows
import GoSem.ClaimSeven
namespace Go.Proofs.YticodohfokgjfaaDoor
namespace Rows

/-- THE TIED CARD OF 'prowlaw06.CoalHeaps'. -/
def coalHeapsCard : Claim7 := { stood := { row := coalHeapsRow, standIns := [], harness := (true, "2cd8e3e462d7998f250c87a0e16261434d03a3c49ab25e6d018ac7585112d6f3"), looks := false }, kinds := [], alts := [], laidByText := true, laidKinds := [.data, .funcs], laidTests := true, laidLooks := .later }
def CoalHeapsCardSaid : Prop := Claim7.holds Tryd.pinned (.plain (OpenSpec.ofChange coalHeapsSpec)) coalHeapsCard

/-- THE TIED CARD OF 'prowlaw06.CoalDays'. -/
def coalDaysCard : Claim7 := { stood := { row := coalDaysRow, standIns := [], harness := (true, "2cd8e3e462d7998f250c87a0e16261434d03a3c49ab25e6d018ac7585112d6f3"), looks := false }, kinds := [], alts := [], laidByText := true, laidKinds := [.data, .funcs], laidTests := true, laidLooks := .later }
def CoalDaysCardSaid : Prop := Claim7.holds Tryd.pinned (.plain (OpenSpec.ofChange coalDaysSpec)) coalDaysCard

/-- THE TIED CARD OF 'prowlaw06.CoalWrongs'. -/
def coalWrongsCard : Claim7 := { stood := { row := coalWrongsRow, standIns := [], harness := (true, "2cd8e3e462d7998f250c87a0e16261434d03a3c49ab25e6d018ac7585112d6f3"), looks := false }, kinds := [], alts := [], laidByText := true, laidKinds := [.data, .funcs], laidTests := true, laidLooks := .later }
def CoalWrongsCardSaid : Prop := Claim7.holds Tryd.pinned (.plain (OpenSpec.ofChange coalWrongsSpec)) coalWrongsCard

/-- THE TIED CARD OF 'prowlaw06.CoalTrue'. -/
def coalTrueCard : Claim7 := { stood := { row := coalTrueRow, standIns := [], harness := (true, "2cd8e3e462d7998f250c87a0e16261434d03a3c49ab25e6d018ac7585112d6f3"), looks := false }, kinds := [], alts := [], laidByText := true, laidKinds := [.data, .funcs], laidTests := true, laidLooks := .later }
def CoalTrueCardSaid : Prop := Claim7.holds Tryd.pinned (.plain (OpenSpec.ofChange coalTrueSpec)) coalTrueCard

/-- THE TIED CARD OF 'prowlaw06.CoalEnds'. -/
def coalEndsCard : Claim7 := { stood := { row := coalEndsRow, standIns := [], harness := (true, "2cd8e3e462d7998f250c87a0e16261434d03a3c49ab25e6d018ac7585112d6f3"), looks := false }, kinds := [], alts := [], laidByText := true, laidKinds := [.data, .funcs], laidTests := true, laidLooks := .later }
def CoalEndsCardSaid : Prop := Claim7.holds Tryd.pinned (.plain (OpenSpec.ofChange coalEndsSpec)) coalEndsCard

/-- THE TIED CARD OF 'prowlaw06.CoalMore'. -/
def coalMoreCard : Claim7 := { stood := { row := coalMoreRow, standIns := [], harness := (true, "2cd8e3e462d7998f250c87a0e16261434d03a3c49ab25e6d018ac7585112d6f3"), looks := false }, kinds := [], alts := [], laidByText := true, laidKinds := [.data, .funcs], laidTests := true, laidLooks := .later }
def CoalMoreCardSaid : Prop := Claim7.holds Tryd.pinned (.plain (OpenSpec.ofChange coalMoreSpec)) coalMoreCard

/-- THE TIED CARD OF 'prowlaw06.CoalOrder'. -/
def coalOrderCard : Claim7 := { stood := { row := coalOrderRow, standIns := [], harness := (true, "2cd8e3e462d7998f250c87a0e16261434d03a3c49ab25e6d018ac7585112d6f3"), looks := false }, kinds := [], alts := [], laidByText := true, laidKinds := [.data, .funcs], laidTests := true, laidLooks := .later }
def CoalOrderCardSaid : Prop := Claim7.holds Tryd.pinned (.plain (OpenSpec.ofChange coalOrderSpec)) coalOrderCard

/-- THE TIED CARD OF 'prowlaw06.CoalHigher'. -/
def coalHigherCard : Claim7 := { stood := { row := coalHigherRow, standIns := [], harness := (true, "2cd8e3e462d7998f250c87a0e16261434d03a3c49ab25e6d018ac7585112d6f3"), looks := false }, kinds := [], alts := [], laidByText := true, laidKinds := [.data, .funcs], laidTests := true, laidLooks := .later }
def CoalHigherCardSaid : Prop := Claim7.holds Tryd.pinned (.plain (OpenSpec.ofChange coalHigherSpec)) coalHigherCard

/-- THE TIED CARD OF 'prowlaw06.CoalDay'. -/
def coalDayCard : Claim7 := { stood := { row := coalDayRow, standIns := [], harness := (true, "2cd8e3e462d7998f250c87a0e16261434d03a3c49ab25e6d018ac7585112d6f3"), looks := false }, kinds := [], alts := [], laidByText := true, laidKinds := [.data, .funcs], laidTests := true, laidLooks := .later }
def CoalDayCardSaid : Prop := Claim7.holds Tryd.pinned (.plain (OpenSpec.ofChange coalDaySpec)) coalDayCard

/-- THE TIED CARD OF 'prowlaw06.CoalLate'. -/
def coalLateCard : Claim7 := { stood := { row := coalLateRow, standIns := [], harness := (true, "2cd8e3e462d7998f250c87a0e16261434d03a3c49ab25e6d018ac7585112d6f3"), looks := false }, kinds := [], alts := [], laidByText := true, laidKinds := [.data, .funcs], laidTests := true, laidLooks := .later }
def CoalLateCardSaid : Prop := Claim7.holds Tryd.pinned (.plain (OpenSpec.ofChange coalLateSpec)) coalLateCard

/-- THE TIED CARD OF 'prowlaw06.CoalEasier'. -/
def coalEasierCard : Claim7 := { stood := { row := coalEasierRow, standIns := [], harness := (true, "2cd8e3e462d7998f250c87a0e16261434d03a3c49ab25e6d018ac7585112d6f3"), looks := false }, kinds := [], alts := [], laidByText := true, laidKinds := [.data, .funcs], laidTests := true, laidLooks := .later }
def CoalEasierCardSaid : Prop := Claim7.holds Tryd.pinned (.plain (OpenSpec.ofChange coalEasierSpec)) coalEasierCard

/-- THE TIED CARD OF 'prowlaw06.CoalWrong'. -/
def coalWrongCard : Claim7 := { stood := { row := coalWrongRow, standIns := [], harness := (true, "2cd8e3e462d7998f250c87a0e16261434d03a3c49ab25e6d018ac7585112d6f3"), looks := false }, kinds := [], alts := [], laidByText := true, laidKinds := [.data, .funcs], laidTests := true, laidLooks := .later }
def CoalWrongCardSaid : Prop := Claim7.holds Tryd.pinned (.plain (OpenSpec.ofChange coalWrongSpec)) coalWrongCard

/-- THE TIED CARD OF 'prowlaw06.CoalKnown'. -/
def coalKnownCard : Claim7 := { stood := { row := coalKnownRow, standIns := [], harness := (true, "2cd8e3e462d7998f250c87a0e16261434d03a3c49ab25e6d018ac7585112d6f3"), looks := false }, kinds := [], alts := [], laidByText := true, laidKinds := [.data, .funcs], laidTests := true, laidLooks := .later }
def CoalKnownCardSaid : Prop := Claim7.holds Tryd.pinned (.plain (OpenSpec.ofChange coalKnownSpec)) coalKnownCard

/-- THE SECOND FORM's CARD OF 'prowlaw06.CoalHeaps'. -/
def coalHeapsUptoCard : Claim7 := { stood := { row := coalHeapsUptoRow, standIns := [], harness := (true, "2cd8e3e462d7998f250c87a0e16261434d03a3c49ab25e6d018ac7585112d6f3"), looks := false }, kinds := [], alts := [], laidByText := true, laidKinds := [.data, .funcs], laidTests := true, laidLooks := .later }
def CoalHeapsUptoCardSaid : Prop := Claim7.holds Tryd.pinned (.plain (OpenSpec.upto coalHeapsSpec)) coalHeapsUptoCard

/-- THE SECOND FORM's CARD OF 'prowlaw06.CoalDays'. -/
def coalDaysUptoCard : Claim7 := { stood := { row := coalDaysUptoRow, standIns := [], harness := (true, "2cd8e3e462d7998f250c87a0e16261434d03a3c49ab25e6d018ac7585112d6f3"), looks := false }, kinds := [], alts := [], laidByText := true, laidKinds := [.data, .funcs], laidTests := true, laidLooks := .later }
def CoalDaysUptoCardSaid : Prop := Claim7.holds Tryd.pinned (.plain (OpenSpec.upto coalDaysSpec)) coalDaysUptoCard

/-- THE SECOND FORM's CARD OF 'prowlaw06.CoalWrongs'. -/
def coalWrongsUptoCard : Claim7 := { stood := { row := coalWrongsUptoRow, standIns := [], harness := (true, "2cd8e3e462d7998f250c87a0e16261434d03a3c49ab25e6d018ac7585112d6f3"), looks := false }, kinds := [], alts := [], laidByText := true, laidKinds := [.data, .funcs], laidTests := true, laidLooks := .later }
def CoalWrongsUptoCardSaid : Prop := Claim7.holds Tryd.pinned (.plain (OpenSpec.upto coalWrongsSpec)) coalWrongsUptoCard

/-- THE SECOND FORM's CARD OF 'prowlaw06.CoalTrue'. -/
def coalTrueUptoCard : Claim7 := { stood := { row := coalTrueUptoRow, standIns := [], harness := (true, "2cd8e3e462d7998f250c87a0e16261434d03a3c49ab25e6d018ac7585112d6f3"), looks := false }, kinds := [], alts := [], laidByText := true, laidKinds := [.data, .funcs], laidTests := true, laidLooks := .later }
def CoalTrueUptoCardSaid : Prop := Claim7.holds Tryd.pinned (.plain (OpenSpec.upto coalTrueSpec)) coalTrueUptoCard

/-- THE SECOND FORM's CARD OF 'prowlaw06.CoalEnds'. -/
def coalEndsUptoCard : Claim7 := { stood := { row := coalEndsUptoRow, standIns := [], harness := (true, "2cd8e3e462d7998f250c87a0e16261434d03a3c49ab25e6d018ac7585112d6f3"), looks := false }, kinds := [], alts := [], laidByText := true, laidKinds := [.data, .funcs], laidTests := true, laidLooks := .later }
def CoalEndsUptoCardSaid : Prop := Claim7.holds Tryd.pinned (.plain (OpenSpec.upto coalEndsSpec)) coalEndsUptoCard

/-- THE SECOND FORM's CARD OF 'prowlaw06.CoalMore'. -/
def coalMoreUptoCard : Claim7 := { stood := { row := coalMoreUptoRow, standIns := [], harness := (true, "2cd8e3e462d7998f250c87a0e16261434d03a3c49ab25e6d018ac7585112d6f3"), looks := false }, kinds := [], alts := [], laidByText := true, laidKinds := [.data, .funcs], laidTests := true, laidLooks := .later }
def CoalMoreUptoCardSaid : Prop := Claim7.holds Tryd.pinned (.plain (OpenSpec.upto coalMoreSpec)) coalMoreUptoCard

/-- THE SECOND FORM's CARD OF 'prowlaw06.CoalOrder'. -/
def coalOrderUptoCard : Claim7 := { stood := { row := coalOrderUptoRow, standIns := [], harness := (true, "2cd8e3e462d7998f250c87a0e16261434d03a3c49ab25e6d018ac7585112d6f3"), looks := false }, kinds := [], alts := [], laidByText := true, laidKinds := [.data, .funcs], laidTests := true, laidLooks := .later }
def CoalOrderUptoCardSaid : Prop := Claim7.holds Tryd.pinned (.plain (OpenSpec.upto coalOrderSpec)) coalOrderUptoCard

/-- THE SECOND FORM's CARD OF 'prowlaw06.CoalHigher'. -/
def coalHigherUptoCard : Claim7 := { stood := { row := coalHigherUptoRow, standIns := [], harness := (true, "2cd8e3e462d7998f250c87a0e16261434d03a3c49ab25e6d018ac7585112d6f3"), looks := false }, kinds := [], alts := [], laidByText := true, laidKinds := [.data, .funcs], laidTests := true, laidLooks := .later }
def CoalHigherUptoCardSaid : Prop := Claim7.holds Tryd.pinned (.plain (OpenSpec.upto coalHigherSpec)) coalHigherUptoCard

/-- THE SECOND FORM's CARD OF 'prowlaw06.CoalDay'. -/
def coalDayUptoCard : Claim7 := { stood := { row := coalDayUptoRow, standIns := [], harness := (true, "2cd8e3e462d7998f250c87a0e16261434d03a3c49ab25e6d018ac7585112d6f3"), looks := false }, kinds := [], alts := [], laidByText := true, laidKinds := [.data, .funcs], laidTests := true, laidLooks := .later }
def CoalDayUptoCardSaid : Prop := Claim7.holds Tryd.pinned (.plain (OpenSpec.upto coalDaySpec)) coalDayUptoCard

/-- THE SECOND FORM's CARD OF 'prowlaw06.CoalLate'. -/
def coalLateUptoCard : Claim7 := { stood := { row := coalLateUptoRow, standIns := [], harness := (true, "2cd8e3e462d7998f250c87a0e16261434d03a3c49ab25e6d018ac7585112d6f3"), looks := false }, kinds := [], alts := [], laidByText := true, laidKinds := [.data, .funcs], laidTests := true, laidLooks := .later }
def CoalLateUptoCardSaid : Prop := Claim7.holds Tryd.pinned (.plain (OpenSpec.upto coalLateSpec)) coalLateUptoCard

/-- THE SECOND FORM's CARD OF 'prowlaw06.CoalEasier'. -/
def coalEasierUptoCard : Claim7 := { stood := { row := coalEasierUptoRow, standIns := [], harness := (true, "2cd8e3e462d7998f250c87a0e16261434d03a3c49ab25e6d018ac7585112d6f3"), looks := false }, kinds := [], alts := [], laidByText := true, laidKinds := [.data, .funcs], laidTests := true, laidLooks := .later }
def CoalEasierUptoCardSaid : Prop := Claim7.holds Tryd.pinned (.plain (OpenSpec.upto coalEasierSpec)) coalEasierUptoCard

/-- THE SECOND FORM's CARD OF 'prowlaw06.CoalWrong'. -/
def coalWrongUptoCard : Claim7 := { stood := { row := coalWrongUptoRow, standIns := [], harness := (true, "2cd8e3e462d7998f250c87a0e16261434d03a3c49ab25e6d018ac7585112d6f3"), looks := false }, kinds := [], alts := [], laidByText := true, laidKinds := [.data, .funcs], laidTests := true, laidLooks := .later }
def CoalWrongUptoCardSaid : Prop := Claim7.holds Tryd.pinned (.plain (OpenSpec.upto coalWrongSpec)) coalWrongUptoCard

/-- THE SECOND FORM's CARD OF 'prowlaw06.CoalKnown'. -/
def coalKnownUptoCard : Claim7 := { stood := { row := coalKnownUptoRow, standIns := [], harness := (true, "2cd8e3e462d7998f250c87a0e16261434d03a3c49ab25e6d018ac7585112d6f3"), looks := false }, kinds := [], alts := [], laidByText := true, laidKinds := [.data, .funcs], laidTests := true, laidLooks := .later }
def CoalKnownUptoCardSaid : Prop := Claim7.holds Tryd.pinned (.plain (OpenSpec.upto coalKnownSpec)) coalKnownUptoCard
end Rows
end Go.Proofs.YticodohfokgjfaaDoor
