/-
  NARROWER THAN 'FOR EVERY INPUT', by the rows' own cells (each row's printed sentence says how): TicketTrue: laid · TicketShown: laid · TicketClash: laid · TicketBox: laid · TicketEnds: laid · TicketKnown: laid · TicketWrong: laid · TicketTrips: laid · TicketNone: laid.
  DERIVED. THE GIVEN ROWS OF THIS SEAT. 9 by the template 'for every input the law returns true; each argument reads behind the call as it read before'; 0 by the template 'total and deterministic' (their statements: YtafhljljfglfeaaDoorTotals.lean).
  GIVEN WITH THE SEED: the statements are not yours to turn. If you find one false, say at which input.
  Laid BY PROGRAM, IN A SANDBOX (cutbox-rows.mjs): the forced cells as the released guide's own fill.sh prints them over the translation a6b65430940362ce… (all of the seat's roots in one cut). By AI agents, Wed Nov 11 2026. No macro, syntax, notation, axiom, sorry.
-/
import Derived.Test.YtafhljljfglfeaaDoorChecked
import GoSem.Claim
import GoSem.ClaimJoined
import GoSem.ClaimMapViews
import Derived.JoinedTies
import Derived.KernelRfl
namespace Go.Proofs.YtafhljljfglfeaaDoor
/- THE CELL 'sum', in the pinned program and in every row, IS THE sha256 OF THE DUMP (.gsa) THAT YtafhljljfglfeaaDoorProg.lean LOADS. Nothing in Lean hashes anything: it is a label: what it is worth is what the hold of that sum in a sandbox is worth. -/
noncomputable def Tryd.pinned : Pinned := { name := "ytafhljljfglfeaadoor", sum := "a6b65430940362ce9aecdaea16c86026e857cf619ecf8a1ee0147a2e2e3496f4", checked := Tryd.checked }
namespace Rows
def none {H : Type} : Left H := { results := [], args := [] }

/- WHAT THE LISTED PACKAGE-LEVEL VARIABLES READ AS WHEN THE CALL BEGINS. Each datum BY PROGRAM (the guide's laid-datum.mjs) off the statement by which the dump's own 'gosem.cut.vars' lays the variable. In a bare row this is a premise. The card (YtafhljljfglfeaaDoorCards.lean) ties it to the program's text. -/
def laid_prow_tally_ends {H : Type} : DataW H := .iface "func table" (.agg [.iface "func" (.lit (.string [40, 112, 114, 111, 119, 47, 116, 97, 108, 108, 121, 46, 99, 111, 117, 110, 116, 41, 46, 108, 101, 97, 115, 116])), .iface "func" (.lit (.string [40, 112, 114, 111, 119, 47, 116, 97, 108, 108, 121, 46, 99, 111, 117, 110, 116, 41, 46, 109, 111, 115, 116]))])
def laid_prow_ticket_nobody {H : Type} : DataW H := .agg [.lit (.int .i64 (-1)), .lit (.int .i64 (-1))]
def laid_prow_ticket_asks {H : Type} : DataW H := .iface "func table" (.agg [.iface "func" (.lit (.string [40, 112, 114, 111, 119, 47, 116, 105, 99, 107, 101, 116, 46, 98, 111, 111, 107, 41, 46, 97, 108, 119, 97, 121, 115])), .iface "func" (.lit (.string [40, 112, 114, 111, 119, 47, 116, 105, 99, 107, 101, 116, 46, 98, 111, 111, 107, 41, 46, 115, 111, 109, 101, 116, 105, 109, 101, 115]))])
def laid_prow_tally_nothing {H : Type} : DataW H := .agg [.lit (.int .i64 (-1)), .lit (.int .i64 (-1))]

/-- 'prowlaw10.TicketTrue': WHATEVER THE INPUT: true; the input reads as it did. -/
def ticketTrueSpec : ChangeSpec := { name := "ticketTrue", fn := fun _ => fun
  | [d1, d2, d3] => { results := [.lit (.bool true)], args := [d1, d2, d3] }
  | _ => none }
def ticketTrueRow : OpenClaim := { program := "ytafhljljfglfeaadoor", sum := "a6b65430940362ce9aecdaea16c86026e857cf619ecf8a1ee0147a2e2e3496f4", func := "prow/prowlaw10.TicketTrue", spec := "ticketTrue", unfollowed := true, recurses := true, named := ["prow/ticket.nobody", "prow/tally.ends", "prow/ticket.asks"], plainKeys := false, apart := false, laid := [("prow/tally.ends", laid_prow_tally_ends), ("prow/ticket.nobody", laid_prow_ticket_nobody), ("prow/ticket.asks", laid_prow_ticket_asks)] }
def TicketTrueSaid : Prop := ticketTrueRow.holds Tryd.pinned (OpenSpec.ofChange ticketTrueSpec)

/-- ITS FALSE NEIGHBOUR: 'it returns false'. Refute it at one input. -/
def ticketTrueWrong : ChangeSpec := { name := "ticketTrue", fn := fun _ => fun
  | [d1, d2, d3] => { results := [.lit (.bool false)], args := [d1, d2, d3] }
  | _ => none }
def TicketTrueWrongFalsely : Prop := ticketTrueRow.holds Tryd.pinned (OpenSpec.ofChange ticketTrueWrong)

/-- 'prowlaw10.TicketShown': WHATEVER THE INPUT: true; the input reads as it did. -/
def ticketShownSpec : ChangeSpec := { name := "ticketShown", fn := fun _ => fun
  | [d1, d2] => { results := [.lit (.bool true)], args := [d1, d2] }
  | _ => none }
def ticketShownRow : OpenClaim := { program := "ytafhljljfglfeaadoor", sum := "a6b65430940362ce9aecdaea16c86026e857cf619ecf8a1ee0147a2e2e3496f4", func := "prow/prowlaw10.TicketShown", spec := "ticketShown", unfollowed := true, recurses := true, named := ["prow/ticket.nobody", "prow/tally.ends", "prow/ticket.asks"], plainKeys := false, apart := false, laid := [("prow/tally.ends", laid_prow_tally_ends), ("prow/ticket.nobody", laid_prow_ticket_nobody), ("prow/ticket.asks", laid_prow_ticket_asks)] }
def TicketShownSaid : Prop := ticketShownRow.holds Tryd.pinned (OpenSpec.ofChange ticketShownSpec)

/-- ITS FALSE NEIGHBOUR: 'it returns false'. Refute it at one input. -/
def ticketShownWrong : ChangeSpec := { name := "ticketShown", fn := fun _ => fun
  | [d1, d2] => { results := [.lit (.bool false)], args := [d1, d2] }
  | _ => none }
def TicketShownWrongFalsely : Prop := ticketShownRow.holds Tryd.pinned (OpenSpec.ofChange ticketShownWrong)

/-- 'prowlaw10.TicketClash': WHATEVER THE INPUT: true; the input reads as it did. -/
def ticketClashSpec : ChangeSpec := { name := "ticketClash", fn := fun _ => fun
  | [d1, d2] => { results := [.lit (.bool true)], args := [d1, d2] }
  | _ => none }
def ticketClashRow : OpenClaim := { program := "ytafhljljfglfeaadoor", sum := "a6b65430940362ce9aecdaea16c86026e857cf619ecf8a1ee0147a2e2e3496f4", func := "prow/prowlaw10.TicketClash", spec := "ticketClash", unfollowed := true, recurses := true, named := ["prow/ticket.nobody", "prow/tally.ends", "prow/ticket.asks"], plainKeys := false, apart := false, laid := [("prow/tally.ends", laid_prow_tally_ends), ("prow/ticket.nobody", laid_prow_ticket_nobody), ("prow/ticket.asks", laid_prow_ticket_asks)] }
def TicketClashSaid : Prop := ticketClashRow.holds Tryd.pinned (OpenSpec.ofChange ticketClashSpec)

/-- ITS FALSE NEIGHBOUR: 'it returns false'. Refute it at one input. -/
def ticketClashWrong : ChangeSpec := { name := "ticketClash", fn := fun _ => fun
  | [d1, d2] => { results := [.lit (.bool false)], args := [d1, d2] }
  | _ => none }
def TicketClashWrongFalsely : Prop := ticketClashRow.holds Tryd.pinned (OpenSpec.ofChange ticketClashWrong)

/-- 'prowlaw10.TicketBox': WHATEVER THE INPUT: true; the input reads as it did. -/
def ticketBoxSpec : ChangeSpec := { name := "ticketBox", fn := fun _ => fun
  | [d1, d2, d3] => { results := [.lit (.bool true)], args := [d1, d2, d3] }
  | _ => none }
def ticketBoxRow : OpenClaim := { program := "ytafhljljfglfeaadoor", sum := "a6b65430940362ce9aecdaea16c86026e857cf619ecf8a1ee0147a2e2e3496f4", func := "prow/prowlaw10.TicketBox", spec := "ticketBox", unfollowed := true, recurses := true, named := ["prow/ticket.nobody", "prow/tally.ends", "prow/ticket.asks"], plainKeys := false, apart := false, laid := [("prow/tally.ends", laid_prow_tally_ends), ("prow/ticket.nobody", laid_prow_ticket_nobody), ("prow/ticket.asks", laid_prow_ticket_asks)] }
def TicketBoxSaid : Prop := ticketBoxRow.holds Tryd.pinned (OpenSpec.ofChange ticketBoxSpec)

/-- ITS FALSE NEIGHBOUR: 'it returns false'. Refute it at one input. -/
def ticketBoxWrong : ChangeSpec := { name := "ticketBox", fn := fun _ => fun
  | [d1, d2, d3] => { results := [.lit (.bool false)], args := [d1, d2, d3] }
  | _ => none }
def TicketBoxWrongFalsely : Prop := ticketBoxRow.holds Tryd.pinned (OpenSpec.ofChange ticketBoxWrong)

/-- 'prowlaw10.TicketEnds': WHATEVER THE INPUT: true; the input reads as it did. -/
def ticketEndsSpec : ChangeSpec := { name := "ticketEnds", fn := fun _ => fun
  | [d1, d2] => { results := [.lit (.bool true)], args := [d1, d2] }
  | _ => none }
def ticketEndsRow : OpenClaim := { program := "ytafhljljfglfeaadoor", sum := "a6b65430940362ce9aecdaea16c86026e857cf619ecf8a1ee0147a2e2e3496f4", func := "prow/prowlaw10.TicketEnds", spec := "ticketEnds", unfollowed := true, recurses := true, named := ["prow/ticket.nobody", "prow/tally.ends", "prow/ticket.asks"], plainKeys := false, apart := false, laid := [("prow/tally.ends", laid_prow_tally_ends), ("prow/ticket.nobody", laid_prow_ticket_nobody), ("prow/ticket.asks", laid_prow_ticket_asks)] }
def TicketEndsSaid : Prop := ticketEndsRow.holds Tryd.pinned (OpenSpec.ofChange ticketEndsSpec)

/-- ITS FALSE NEIGHBOUR: 'it returns false'. Refute it at one input. -/
def ticketEndsWrong : ChangeSpec := { name := "ticketEnds", fn := fun _ => fun
  | [d1, d2] => { results := [.lit (.bool false)], args := [d1, d2] }
  | _ => none }
def TicketEndsWrongFalsely : Prop := ticketEndsRow.holds Tryd.pinned (OpenSpec.ofChange ticketEndsWrong)

/-- 'prowlaw10.TicketKnown': WHATEVER THE INPUT: true; the input reads as it did. -/
def ticketKnownSpec : ChangeSpec := { name := "ticketKnown", fn := fun _ => fun
  | [] => { results := [.lit (.bool true)], args := [] }
  | _ => none }
def ticketKnownRow : OpenClaim := { program := "ytafhljljfglfeaadoor", sum := "a6b65430940362ce9aecdaea16c86026e857cf619ecf8a1ee0147a2e2e3496f4", func := "prow/prowlaw10.TicketKnown", spec := "ticketKnown", unfollowed := true, recurses := true, named := ["prow/ticket.nobody", "prow/tally.ends", "prow/ticket.asks"], plainKeys := false, apart := false, laid := [("prow/tally.ends", laid_prow_tally_ends), ("prow/ticket.nobody", laid_prow_ticket_nobody), ("prow/ticket.asks", laid_prow_ticket_asks)] }
def TicketKnownSaid : Prop := ticketKnownRow.holds Tryd.pinned (OpenSpec.ofChange ticketKnownSpec)

/-- ITS FALSE NEIGHBOUR: 'it returns false'. Refute it at one input. -/
def ticketKnownWrong : ChangeSpec := { name := "ticketKnown", fn := fun _ => fun
  | [] => { results := [.lit (.bool false)], args := [] }
  | _ => none }
def TicketKnownWrongFalsely : Prop := ticketKnownRow.holds Tryd.pinned (OpenSpec.ofChange ticketKnownWrong)

/-- 'prowlaw10.TicketWrong': WHATEVER THE INPUT: true; the input reads as it did. -/
def ticketWrongSpec : ChangeSpec := { name := "ticketWrong", fn := fun _ => fun
  | [d1, d2] => { results := [.lit (.bool true)], args := [d1, d2] }
  | _ => none }
def ticketWrongRow : OpenClaim := { program := "ytafhljljfglfeaadoor", sum := "a6b65430940362ce9aecdaea16c86026e857cf619ecf8a1ee0147a2e2e3496f4", func := "prow/prowlaw10.TicketWrong", spec := "ticketWrong", unfollowed := true, recurses := true, named := ["prow/ticket.nobody", "prow/tally.ends", "prow/ticket.asks", "prow/tally.nothing"], plainKeys := false, apart := false, laid := [("prow/tally.ends", laid_prow_tally_ends), ("prow/tally.nothing", laid_prow_tally_nothing), ("prow/ticket.nobody", laid_prow_ticket_nobody), ("prow/ticket.asks", laid_prow_ticket_asks)] }
def TicketWrongSaid : Prop := ticketWrongRow.holds Tryd.pinned (OpenSpec.ofChange ticketWrongSpec)

/-- ITS FALSE NEIGHBOUR: 'it returns false'. Refute it at one input. -/
def ticketWrongWrong : ChangeSpec := { name := "ticketWrong", fn := fun _ => fun
  | [d1, d2] => { results := [.lit (.bool false)], args := [d1, d2] }
  | _ => none }
def TicketWrongWrongFalsely : Prop := ticketWrongRow.holds Tryd.pinned (OpenSpec.ofChange ticketWrongWrong)

/-- 'prowlaw10.TicketTrips': WHATEVER THE INPUT: true; the input reads as it did. -/
def ticketTripsSpec : ChangeSpec := { name := "ticketTrips", fn := fun _ => fun
  | [d1, d2] => { results := [.lit (.bool true)], args := [d1, d2] }
  | _ => none }
def ticketTripsRow : OpenClaim := { program := "ytafhljljfglfeaadoor", sum := "a6b65430940362ce9aecdaea16c86026e857cf619ecf8a1ee0147a2e2e3496f4", func := "prow/prowlaw10.TicketTrips", spec := "ticketTrips", unfollowed := true, recurses := true, named := ["prow/ticket.nobody", "prow/tally.ends", "prow/ticket.asks", "prow/tally.nothing"], plainKeys := false, apart := false, laid := [("prow/tally.ends", laid_prow_tally_ends), ("prow/tally.nothing", laid_prow_tally_nothing), ("prow/ticket.nobody", laid_prow_ticket_nobody), ("prow/ticket.asks", laid_prow_ticket_asks)] }
def TicketTripsSaid : Prop := ticketTripsRow.holds Tryd.pinned (OpenSpec.ofChange ticketTripsSpec)

/-- ITS FALSE NEIGHBOUR: 'it returns false'. Refute it at one input. -/
def ticketTripsWrong : ChangeSpec := { name := "ticketTrips", fn := fun _ => fun
  | [d1, d2] => { results := [.lit (.bool false)], args := [d1, d2] }
  | _ => none }
def TicketTripsWrongFalsely : Prop := ticketTripsRow.holds Tryd.pinned (OpenSpec.ofChange ticketTripsWrong)

/-- 'prowlaw10.TicketNone': WHATEVER THE INPUT: true; the input reads as it did. -/
def ticketNoneSpec : ChangeSpec := { name := "ticketNone", fn := fun _ => fun
  | [d1, d2] => { results := [.lit (.bool true)], args := [d1, d2] }
  | _ => none }
def ticketNoneRow : OpenClaim := { program := "ytafhljljfglfeaadoor", sum := "a6b65430940362ce9aecdaea16c86026e857cf619ecf8a1ee0147a2e2e3496f4", func := "prow/prowlaw10.TicketNone", spec := "ticketNone", unfollowed := true, recurses := true, named := ["prow/ticket.nobody", "prow/tally.ends", "prow/ticket.asks", "prow/tally.nothing"], plainKeys := false, apart := false, laid := [("prow/tally.ends", laid_prow_tally_ends), ("prow/tally.nothing", laid_prow_tally_nothing), ("prow/ticket.nobody", laid_prow_ticket_nobody), ("prow/ticket.asks", laid_prow_ticket_asks)] }
def TicketNoneSaid : Prop := ticketNoneRow.holds Tryd.pinned (OpenSpec.ofChange ticketNoneSpec)

/-- ITS FALSE NEIGHBOUR: 'it returns false'. Refute it at one input. -/
def ticketNoneWrong : ChangeSpec := { name := "ticketNone", fn := fun _ => fun
  | [d1, d2] => { results := [.lit (.bool false)], args := [d1, d2] }
  | _ => none }
def TicketNoneWrongFalsely : Prop := ticketNoneRow.holds Tryd.pinned (OpenSpec.ofChange ticketNoneWrong)

/- THE SECOND FORM. 'bulk': how many values and letters a reading holds, each counted each time it is reached (what is shared counts as often as it is met; a slice's spare places count too). A statement '..UptoSaid' is the law's where the arguments, and the package variables that the reading takes, are together of bulk at most 1048576: NARROWER than '..Said'. Prove '..Said' where nothing that the law and all that it calls make is longer than what came in: it says more and counts as full. Else prove '..UptoSaid'. A law counts once. -/
mutual
def uptoBulk {H : Type} : DataW H → Nat
  | .lit (.string bytes) => bytes.length + 1
  | .lit _ => 1
  | .nil => 1
  | .ptr d => uptoBulk d + 1
  | .slice elems spare => uptoBulkAll elems + uptoBulkAll spare + 1
  | .agg parts => uptoBulkAll parts + 1
  | .iface _ d => uptoBulk d + 1
  | .map entries => uptoBulkEntries entries + 1
  | .held _ => 1
def uptoBulkAll {H : Type} : List (DataW H) → Nat
  | [] => 0
  | d :: r => uptoBulk d + uptoBulkAll r
def uptoBulkEntries {H : Type} : List (Lit × DataW H) → Nat
  | [] => 0
  | x :: r => uptoBulkEntry x + uptoBulkEntries r
def uptoBulkEntry {H : Type} : Lit × DataW H → Nat
  | (.string bytes, d) => bytes.length + uptoBulk d + 1
  | (_, d) => uptoBulk d + 1
 end
def uptoSmall : (H : Type) → List (DataW H) → Bool := fun _ ds => decide (uptoBulkAll ds ≤ 1048576)
def OpenSpec.upto (s : _root_.Go.ChangeSpec) : _root_.Go.OpenSpec := { _root_.Go.OpenSpec.ofChange s with cond := some uptoSmall }

/-- 'prowlaw10.TicketTrue', WHERE WHAT IT READS IS OF BULK AT MOST 1048576: true; the input reads as it did. -/
def ticketTrueUptoRow : OpenClaim := { program := "ytafhljljfglfeaadoor", sum := "a6b65430940362ce9aecdaea16c86026e857cf619ecf8a1ee0147a2e2e3496f4", func := "prow/prowlaw10.TicketTrue", spec := "ticketTrue", unfollowed := true, recurses := true, named := ["prow/ticket.nobody", "prow/tally.ends", "prow/ticket.asks"], plainKeys := false, apart := false, laid := [("prow/tally.ends", laid_prow_tally_ends), ("prow/ticket.nobody", laid_prow_ticket_nobody), ("prow/ticket.asks", laid_prow_ticket_asks)], narrowed := true }
def TicketTrueUptoSaid : Prop := ticketTrueUptoRow.holds Tryd.pinned (OpenSpec.upto ticketTrueSpec)

/-- 'prowlaw10.TicketShown', WHERE WHAT IT READS IS OF BULK AT MOST 1048576: true; the input reads as it did. -/
def ticketShownUptoRow : OpenClaim := { program := "ytafhljljfglfeaadoor", sum := "a6b65430940362ce9aecdaea16c86026e857cf619ecf8a1ee0147a2e2e3496f4", func := "prow/prowlaw10.TicketShown", spec := "ticketShown", unfollowed := true, recurses := true, named := ["prow/ticket.nobody", "prow/tally.ends", "prow/ticket.asks"], plainKeys := false, apart := false, laid := [("prow/tally.ends", laid_prow_tally_ends), ("prow/ticket.nobody", laid_prow_ticket_nobody), ("prow/ticket.asks", laid_prow_ticket_asks)], narrowed := true }
def TicketShownUptoSaid : Prop := ticketShownUptoRow.holds Tryd.pinned (OpenSpec.upto ticketShownSpec)

/-- 'prowlaw10.TicketClash', WHERE WHAT IT READS IS OF BULK AT MOST 1048576: true; the input reads as it did. -/
def ticketClashUptoRow : OpenClaim := { program := "ytafhljljfglfeaadoor", sum := "a6b65430940362ce9aecdaea16c86026e857cf619ecf8a1ee0147a2e2e3496f4", func := "prow/prowlaw10.TicketClash", spec := "ticketClash", unfollowed := true, recurses := true, named := ["prow/ticket.nobody", "prow/tally.ends", "prow/ticket.asks"], plainKeys := false, apart := false, laid := [("prow/tally.ends", laid_prow_tally_ends), ("prow/ticket.nobody", laid_prow_ticket_nobody), ("prow/ticket.asks", laid_prow_ticket_asks)], narrowed := true }
def TicketClashUptoSaid : Prop := ticketClashUptoRow.holds Tryd.pinned (OpenSpec.upto ticketClashSpec)

/-- 'prowlaw10.TicketBox', WHERE WHAT IT READS IS OF BULK AT MOST 1048576: true; the input reads as it did. -/
def ticketBoxUptoRow : OpenClaim := { program := "ytafhljljfglfeaadoor", sum := "a6b65430940362ce9aecdaea16c86026e857cf619ecf8a1ee0147a2e2e3496f4", func := "prow/prowlaw10.TicketBox", spec := "ticketBox", unfollowed := true, recurses := true, named := ["prow/ticket.nobody", "prow/tally.ends", "prow/ticket.asks"], plainKeys := false, apart := false, laid := [("prow/tally.ends", laid_prow_tally_ends), ("prow/ticket.nobody", laid_prow_ticket_nobody), ("prow/ticket.asks", laid_prow_ticket_asks)], narrowed := true }
def TicketBoxUptoSaid : Prop := ticketBoxUptoRow.holds Tryd.pinned (OpenSpec.upto ticketBoxSpec)

/-- 'prowlaw10.TicketEnds', WHERE WHAT IT READS IS OF BULK AT MOST 1048576: true; the input reads as it did. -/
def ticketEndsUptoRow : OpenClaim := { program := "ytafhljljfglfeaadoor", sum := "a6b65430940362ce9aecdaea16c86026e857cf619ecf8a1ee0147a2e2e3496f4", func := "prow/prowlaw10.TicketEnds", spec := "ticketEnds", unfollowed := true, recurses := true, named := ["prow/ticket.nobody", "prow/tally.ends", "prow/ticket.asks"], plainKeys := false, apart := false, laid := [("prow/tally.ends", laid_prow_tally_ends), ("prow/ticket.nobody", laid_prow_ticket_nobody), ("prow/ticket.asks", laid_prow_ticket_asks)], narrowed := true }
def TicketEndsUptoSaid : Prop := ticketEndsUptoRow.holds Tryd.pinned (OpenSpec.upto ticketEndsSpec)

/-- 'prowlaw10.TicketKnown', WHERE WHAT IT READS IS OF BULK AT MOST 1048576: true; the input reads as it did. -/
def ticketKnownUptoRow : OpenClaim := { program := "ytafhljljfglfeaadoor", sum := "a6b65430940362ce9aecdaea16c86026e857cf619ecf8a1ee0147a2e2e3496f4", func := "prow/prowlaw10.TicketKnown", spec := "ticketKnown", unfollowed := true, recurses := true, named := ["prow/ticket.nobody", "prow/tally.ends", "prow/ticket.asks"], plainKeys := false, apart := false, laid := [("prow/tally.ends", laid_prow_tally_ends), ("prow/ticket.nobody", laid_prow_ticket_nobody), ("prow/ticket.asks", laid_prow_ticket_asks)], narrowed := true }
def TicketKnownUptoSaid : Prop := ticketKnownUptoRow.holds Tryd.pinned (OpenSpec.upto ticketKnownSpec)

/-- 'prowlaw10.TicketWrong', WHERE WHAT IT READS IS OF BULK AT MOST 1048576: true; the input reads as it did. -/
def ticketWrongUptoRow : OpenClaim := { program := "ytafhljljfglfeaadoor", sum := "a6b65430940362ce9aecdaea16c86026e857cf619ecf8a1ee0147a2e2e3496f4", func := "prow/prowlaw10.TicketWrong", spec := "ticketWrong", unfollowed := true, recurses := true, named := ["prow/ticket.nobody", "prow/tally.ends", "prow/ticket.asks", "prow/tally.nothing"], plainKeys := false, apart := false, laid := [("prow/tally.ends", laid_prow_tally_ends), ("prow/tally.nothing", laid_prow_tally_nothing), ("prow/ticket.nobody", laid_prow_ticket_nobody), ("prow/ticket.asks", laid_prow_ticket_asks)], narrowed := true }
def TicketWrongUptoSaid : Prop := ticketWrongUptoRow.holds Tryd.pinned (OpenSpec.upto ticketWrongSpec)

/-- 'prowlaw10.TicketTrips', WHERE WHAT IT READS IS OF BULK AT MOST 1048576: true; the input reads as it did. -/
def ticketTripsUptoRow : OpenClaim := { program := "ytafhljljfglfeaadoor", sum := "a6b65430940362ce9aecdaea16c86026e857cf619ecf8a1ee0147a2e2e3496f4", func := "prow/prowlaw10.TicketTrips", spec := "ticketTrips", unfollowed := true, recurses := true, named := ["prow/ticket.nobody", "prow/tally.ends", "prow/ticket.asks", "prow/tally.nothing"], plainKeys := false, apart := false, laid := [("prow/tally.ends", laid_prow_tally_ends), ("prow/tally.nothing", laid_prow_tally_nothing), ("prow/ticket.nobody", laid_prow_ticket_nobody), ("prow/ticket.asks", laid_prow_ticket_asks)], narrowed := true }
def TicketTripsUptoSaid : Prop := ticketTripsUptoRow.holds Tryd.pinned (OpenSpec.upto ticketTripsSpec)

/-- 'prowlaw10.TicketNone', WHERE WHAT IT READS IS OF BULK AT MOST 1048576: true; the input reads as it did. -/
def ticketNoneUptoRow : OpenClaim := { program := "ytafhljljfglfeaadoor", sum := "a6b65430940362ce9aecdaea16c86026e857cf619ecf8a1ee0147a2e2e3496f4", func := "prow/prowlaw10.TicketNone", spec := "ticketNone", unfollowed := true, recurses := true, named := ["prow/ticket.nobody", "prow/tally.ends", "prow/ticket.asks", "prow/tally.nothing"], plainKeys := false, apart := false, laid := [("prow/tally.ends", laid_prow_tally_ends), ("prow/tally.nothing", laid_prow_tally_nothing), ("prow/ticket.nobody", laid_prow_ticket_nobody), ("prow/ticket.asks", laid_prow_ticket_asks)], narrowed := true }
def TicketNoneUptoSaid : Prop := ticketNoneUptoRow.holds Tryd.pinned (OpenSpec.upto ticketNoneSpec)

end Rows
end Go.Proofs.YtafhljljfglfeaaDoor
