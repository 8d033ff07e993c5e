/-
  NARROWER THAN 'FOR EVERY INPUT', by the rows' own cells (each row's printed sentence says how): TicketPays: laid · TicketUses: laid · TicketWrongs: laid.
  DERIVED. THE GIVEN ROWS OF THIS SEAT. 3 by the template 'for every input the law returns true; each argument reads behind the call as it read before'; 0 by the template 'total and deterministic' (their statements: YtafhljljfglfeaaGreatDoorTotals.lean).
  GIVEN WITH THE SEED: the statements are not yours to turn. If you find one false, say at which input.
  Laid BY PROGRAM, IN A SANDBOX (cutbox-rows.mjs): the forced cells as the released guide's own fill.sh prints them over the translation 19570042da2fde00… (all of the seat's roots in one cut). By AI agents, Wed Nov 11 2026. No macro, syntax, notation, axiom, sorry.
-/
import Derived.Test.YtafhljljfglfeaaGreatDoorChecked
import GoSem.Claim
import GoSem.ClaimJoined
import GoSem.ClaimMapViews
import Derived.JoinedTies
import Derived.KernelRfl
namespace Go.Proofs.YtafhljljfglfeaaGreatDoor
/- THE CELL 'sum', in the pinned program and in every row, IS THE sha256 OF THE DUMP (.gsa) THAT YtafhljljfglfeaaGreatDoorProg.lean LOADS. Nothing in Lean hashes anything: it is a label: what it is worth is what the hold of that sum in a sandbox is worth. -/
noncomputable def Tryz.pinned : Pinned := { name := "ytafhljljfglfeaagreatdoor", sum := "19570042da2fde004b3a90ac0ede6ecc243e7ff8ec1d35de123cd384fc871e15", checked := Tryz.checked }
namespace Rows
def none {H : Type} : Left H := { results := [], args := [] }

/- WHAT THE LISTED PACKAGE-LEVEL VARIABLES READ AS WHEN THE CALL BEGINS. Each datum BY PROGRAM (the guide's laid-datum.mjs) off the statement by which the dump's own 'gosem.cut.vars' lays the variable. In a bare row this is a premise. The card (YtafhljljfglfeaaGreatDoorCards.lean) ties it to the program's text. -/
def laid_prow_tally_ends {H : Type} : DataW H := .iface "func table" (.agg [.iface "func" (.lit (.string [40, 112, 114, 111, 119, 47, 116, 97, 108, 108, 121, 46, 99, 111, 117, 110, 116, 41, 46, 108, 101, 97, 115, 116])), .iface "func" (.lit (.string [40, 112, 114, 111, 119, 47, 116, 97, 108, 108, 121, 46, 99, 111, 117, 110, 116, 41, 46, 109, 111, 115, 116]))])
def laid_prow_ticket_nobody {H : Type} : DataW H := .agg [.lit (.int .i64 (-1)), .lit (.int .i64 (-1))]
def laid_prow_ticket_asks {H : Type} : DataW H := .iface "func table" (.agg [.iface "func" (.lit (.string [40, 112, 114, 111, 119, 47, 116, 105, 99, 107, 101, 116, 46, 98, 111, 111, 107, 41, 46, 97, 108, 119, 97, 121, 115])), .iface "func" (.lit (.string [40, 112, 114, 111, 119, 47, 116, 105, 99, 107, 101, 116, 46, 98, 111, 111, 107, 41, 46, 115, 111, 109, 101, 116, 105, 109, 101, 115]))])

/-- 'prowlaw10.TicketPays': WHATEVER THE INPUT: true; the input reads as it did. -/
def ticketPaysSpec : ChangeSpec := { name := "ticketPays", fn := fun _ => fun
  | [d1, d2] => { results := [.lit (.bool true)], args := [d1, d2] }
  | _ => none }
def ticketPaysRow : OpenClaim := { program := "ytafhljljfglfeaagreatdoor", sum := "19570042da2fde004b3a90ac0ede6ecc243e7ff8ec1d35de123cd384fc871e15", func := "prow/prowlaw10.TicketPays", spec := "ticketPays", unfollowed := true, recurses := true, named := ["prow/ticket.nobody", "prow/tally.ends", "prow/ticket.asks"], plainKeys := false, apart := false, laid := [("prow/tally.ends", laid_prow_tally_ends), ("prow/ticket.nobody", laid_prow_ticket_nobody), ("prow/ticket.asks", laid_prow_ticket_asks)] }
def TicketPaysSaid : Prop := ticketPaysRow.holds Tryz.pinned (OpenSpec.ofChange ticketPaysSpec)

/-- ITS FALSE NEIGHBOUR: 'it returns false'. Refute it at one input. -/
def ticketPaysWrong : ChangeSpec := { name := "ticketPays", fn := fun _ => fun
  | [d1, d2] => { results := [.lit (.bool false)], args := [d1, d2] }
  | _ => none }
def TicketPaysWrongFalsely : Prop := ticketPaysRow.holds Tryz.pinned (OpenSpec.ofChange ticketPaysWrong)

/-- 'prowlaw10.TicketUses': WHATEVER THE INPUT: true; the input reads as it did. -/
def ticketUsesSpec : ChangeSpec := { name := "ticketUses", fn := fun _ => fun
  | [d1, d2] => { results := [.lit (.bool true)], args := [d1, d2] }
  | _ => none }
def ticketUsesRow : OpenClaim := { program := "ytafhljljfglfeaagreatdoor", sum := "19570042da2fde004b3a90ac0ede6ecc243e7ff8ec1d35de123cd384fc871e15", func := "prow/prowlaw10.TicketUses", spec := "ticketUses", unfollowed := true, recurses := true, named := ["prow/ticket.asks", "prow/ticket.nobody", "prow/tally.ends"], plainKeys := false, apart := false, laid := [("prow/tally.ends", laid_prow_tally_ends), ("prow/ticket.nobody", laid_prow_ticket_nobody), ("prow/ticket.asks", laid_prow_ticket_asks)] }
def TicketUsesSaid : Prop := ticketUsesRow.holds Tryz.pinned (OpenSpec.ofChange ticketUsesSpec)

/-- ITS FALSE NEIGHBOUR: 'it returns false'. Refute it at one input. -/
def ticketUsesWrong : ChangeSpec := { name := "ticketUses", fn := fun _ => fun
  | [d1, d2] => { results := [.lit (.bool false)], args := [d1, d2] }
  | _ => none }
def TicketUsesWrongFalsely : Prop := ticketUsesRow.holds Tryz.pinned (OpenSpec.ofChange ticketUsesWrong)

/-- 'prowlaw10.TicketWrongs': WHATEVER THE INPUT: true; the input reads as it did. -/
def ticketWrongsSpec : ChangeSpec := { name := "ticketWrongs", fn := fun _ => fun
  | [d1, d2] => { results := [.lit (.bool true)], args := [d1, d2] }
  | _ => none }
def ticketWrongsRow : OpenClaim := { program := "ytafhljljfglfeaagreatdoor", sum := "19570042da2fde004b3a90ac0ede6ecc243e7ff8ec1d35de123cd384fc871e15", func := "prow/prowlaw10.TicketWrongs", spec := "ticketWrongs", unfollowed := true, recurses := true, named := ["prow/ticket.nobody", "prow/tally.ends", "prow/ticket.asks"], plainKeys := false, apart := false, laid := [("prow/tally.ends", laid_prow_tally_ends), ("prow/ticket.nobody", laid_prow_ticket_nobody), ("prow/ticket.asks", laid_prow_ticket_asks)] }
def TicketWrongsSaid : Prop := ticketWrongsRow.holds Tryz.pinned (OpenSpec.ofChange ticketWrongsSpec)

/-- ITS FALSE NEIGHBOUR: 'it returns false'. Refute it at one input. -/
def ticketWrongsWrong : ChangeSpec := { name := "ticketWrongs", fn := fun _ => fun
  | [d1, d2] => { results := [.lit (.bool false)], args := [d1, d2] }
  | _ => none }
def TicketWrongsWrongFalsely : Prop := ticketWrongsRow.holds Tryz.pinned (OpenSpec.ofChange ticketWrongsWrong)

/- THE SECOND FORM. 'bulk': how many values and letters a reading holds, each counted each time it is reached (what is shared counts as often as it is met; a slice's spare places count too). A statement '..UptoSaid' is the law's where the arguments, and the package variables that the reading takes, are together of bulk at most 1048576: NARROWER than '..Said'. Prove '..Said' where nothing that the law and all that it calls make is longer than what came in: it says more and counts as full. Else prove '..UptoSaid'. A law counts once. -/
mutual
def uptoBulk {H : Type} : DataW H → Nat
  | .lit (.string bytes) => bytes.length + 1
  | .lit _ => 1
  | .nil => 1
  | .ptr d => uptoBulk d + 1
  | .slice elems spare => uptoBulkAll elems + uptoBulkAll spare + 1
  | .agg parts => uptoBulkAll parts + 1
  | .iface _ d => uptoBulk d + 1
  | .map entries => uptoBulkEntries entries + 1
  | .held _ => 1
def uptoBulkAll {H : Type} : List (DataW H) → Nat
  | [] => 0
  | d :: r => uptoBulk d + uptoBulkAll r
def uptoBulkEntries {H : Type} : List (Lit × DataW H) → Nat
  | [] => 0
  | x :: r => uptoBulkEntry x + uptoBulkEntries r
def uptoBulkEntry {H : Type} : Lit × DataW H → Nat
  | (.string bytes, d) => bytes.length + uptoBulk d + 1
  | (_, d) => uptoBulk d + 1
 end
def uptoSmall : (H : Type) → List (DataW H) → Bool := fun _ ds => decide (uptoBulkAll ds ≤ 1048576)
def OpenSpec.upto (s : _root_.Go.ChangeSpec) : _root_.Go.OpenSpec := { _root_.Go.OpenSpec.ofChange s with cond := some uptoSmall }

/-- 'prowlaw10.TicketPays', WHERE WHAT IT READS IS OF BULK AT MOST 1048576: true; the input reads as it did. -/
def ticketPaysUptoRow : OpenClaim := { program := "ytafhljljfglfeaagreatdoor", sum := "19570042da2fde004b3a90ac0ede6ecc243e7ff8ec1d35de123cd384fc871e15", func := "prow/prowlaw10.TicketPays", spec := "ticketPays", unfollowed := true, recurses := true, named := ["prow/ticket.nobody", "prow/tally.ends", "prow/ticket.asks"], plainKeys := false, apart := false, laid := [("prow/tally.ends", laid_prow_tally_ends), ("prow/ticket.nobody", laid_prow_ticket_nobody), ("prow/ticket.asks", laid_prow_ticket_asks)], narrowed := true }
def TicketPaysUptoSaid : Prop := ticketPaysUptoRow.holds Tryz.pinned (OpenSpec.upto ticketPaysSpec)

/-- 'prowlaw10.TicketUses', WHERE WHAT IT READS IS OF BULK AT MOST 1048576: true; the input reads as it did. -/
def ticketUsesUptoRow : OpenClaim := { program := "ytafhljljfglfeaagreatdoor", sum := "19570042da2fde004b3a90ac0ede6ecc243e7ff8ec1d35de123cd384fc871e15", func := "prow/prowlaw10.TicketUses", spec := "ticketUses", unfollowed := true, recurses := true, named := ["prow/ticket.asks", "prow/ticket.nobody", "prow/tally.ends"], plainKeys := false, apart := false, laid := [("prow/tally.ends", laid_prow_tally_ends), ("prow/ticket.nobody", laid_prow_ticket_nobody), ("prow/ticket.asks", laid_prow_ticket_asks)], narrowed := true }
def TicketUsesUptoSaid : Prop := ticketUsesUptoRow.holds Tryz.pinned (OpenSpec.upto ticketUsesSpec)

/-- 'prowlaw10.TicketWrongs', WHERE WHAT IT READS IS OF BULK AT MOST 1048576: true; the input reads as it did. -/
def ticketWrongsUptoRow : OpenClaim := { program := "ytafhljljfglfeaagreatdoor", sum := "19570042da2fde004b3a90ac0ede6ecc243e7ff8ec1d35de123cd384fc871e15", func := "prow/prowlaw10.TicketWrongs", spec := "ticketWrongs", unfollowed := true, recurses := true, named := ["prow/ticket.nobody", "prow/tally.ends", "prow/ticket.asks"], plainKeys := false, apart := false, laid := [("prow/tally.ends", laid_prow_tally_ends), ("prow/ticket.nobody", laid_prow_ticket_nobody), ("prow/ticket.asks", laid_prow_ticket_asks)], narrowed := true }
def TicketWrongsUptoSaid : Prop := ticketWrongsUptoRow.holds Tryz.pinned (OpenSpec.upto ticketWrongsSpec)

end Rows
end Go.Proofs.YtafhljljfglfeaaGreatDoor
