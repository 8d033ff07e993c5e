/-
  NARROWER THAN 'FOR EVERY INPUT', by the rows' own cells (each row's printed sentence says how): TopEaten: laid · TopFuel: laid.
  DERIVED. THE GIVEN ROWS OF THIS SEAT. 2 by the template 'for every input the law returns true; each argument reads behind the call as it read before'; 0 by the template 'total and deterministic' (their statements: YtblfippmobpaaaaDoorTotals.lean).
  GIVEN WITH THE SEED: the statements are not yours to turn. If you find one false, say at which input.
  Laid BY PROGRAM, IN A SANDBOX (cutbox-rows.mjs): the forced cells as the released guide's own fill.sh prints them over the translation 2088f3e9eb1b7114… (all of the seat's roots in one cut). By AI agents, Wed Nov 11 2026. No macro, syntax, notation, axiom, sorry.
-/
import Derived.Test.YtblfippmobpaaaaDoorChecked
import GoSem.Claim
import GoSem.ClaimJoined
import GoSem.ClaimMapViews
import Derived.JoinedTies
import Derived.KernelRfl
namespace Go.Proofs.YtblfippmobpaaaaDoor
/- THE CELL 'sum', in the pinned program and in every row, IS THE sha256 OF THE DUMP (.gsa) THAT YtblfippmobpaaaaDoorProg.lean LOADS. Nothing in Lean hashes anything: it is a label: what it is worth is what the hold of that sum in a sandbox is worth. -/
noncomputable def Tryd.pinned : Pinned := { name := "ytblfippmobpaaaadoor", sum := "2088f3e9eb1b71144bbe06daa0fd73261f84126d42c85caed9795abcbb85c948", checked := Tryd.checked }
namespace Rows
def none {H : Type} : Left H := { results := [], args := [] }

/- WHAT THE LISTED PACKAGE-LEVEL VARIABLES READ AS WHEN THE CALL BEGINS. Each datum BY PROGRAM (the guide's laid-datum.mjs) off the statement by which the dump's own 'gosem.cut.vars' lays the variable. In a bare row this is a premise. The card (YtblfippmobpaaaaDoorCards.lean) ties it to the program's text. -/
def laid_prow_chain_nowhere {H : Type} : DataW H := .agg [.lit (.int .i64 (-1)), .lit (.int .i64 (-1))]
def laid_prow_chain_thins {H : Type} : DataW H := .iface "func table" (.agg [.iface "func" (.lit (.string [40, 112, 114, 111, 119, 47, 99, 104, 97, 105, 110, 46, 107, 110, 111, 119, 110, 41, 46, 109, 97, 121])), .iface "func" (.lit (.string [40, 112, 114, 111, 119, 47, 99, 104, 97, 105, 110, 46, 107, 110, 111, 119, 110, 41, 46, 115, 117, 114, 101, 108, 121]))])
def laid_prow_coal_still {H : Type} : DataW H := .agg [.lit (.int .i64 (-1)), .lit (.int .i64 (-1))]
def laid_prow_tally_ends {H : Type} : DataW H := .iface "func table" (.agg [.iface "func" (.lit (.string [40, 112, 114, 111, 119, 47, 116, 97, 108, 108, 121, 46, 99, 111, 117, 110, 116, 41, 46, 108, 101, 97, 115, 116])), .iface "func" (.lit (.string [40, 112, 114, 111, 119, 47, 116, 97, 108, 108, 121, 46, 99, 111, 117, 110, 116, 41, 46, 109, 111, 115, 116]))])
def laid_prow_tally_nothing {H : Type} : DataW H := .agg [.lit (.int .i64 (-1)), .lit (.int .i64 (-1))]

/-- 'prowtop.TopEaten': WHATEVER THE INPUT: true; the input reads as it did. -/
def topEatenSpec : ChangeSpec := { name := "topEaten", fn := fun _ => fun
  | [d1, d2] => { results := [.lit (.bool true)], args := [d1, d2] }
  | _ => none }
def topEatenRow : OpenClaim := { program := "ytblfippmobpaaaadoor", sum := "2088f3e9eb1b71144bbe06daa0fd73261f84126d42c85caed9795abcbb85c948", func := "prow/prowtop.TopEaten", spec := "topEaten", unfollowed := true, recurses := true, named := ["prow/coal.still", "prow/tally.ends", "prow/tally.nothing", "prow/chain.nowhere", "prow/chain.thins"], plainKeys := false, apart := false, laid := [("prow/chain.nowhere", laid_prow_chain_nowhere), ("prow/chain.thins", laid_prow_chain_thins), ("prow/coal.still", laid_prow_coal_still), ("prow/tally.ends", laid_prow_tally_ends), ("prow/tally.nothing", laid_prow_tally_nothing)] }
def TopEatenSaid : Prop := topEatenRow.holds Tryd.pinned (OpenSpec.ofChange topEatenSpec)

/-- ITS FALSE NEIGHBOUR: 'it returns false'. Refute it at one input. -/
def topEatenWrong : ChangeSpec := { name := "topEaten", fn := fun _ => fun
  | [d1, d2] => { results := [.lit (.bool false)], args := [d1, d2] }
  | _ => none }
def TopEatenWrongFalsely : Prop := topEatenRow.holds Tryd.pinned (OpenSpec.ofChange topEatenWrong)

/-- 'prowtop.TopFuel': WHATEVER THE INPUT: true; the input reads as it did. -/
def topFuelSpec : ChangeSpec := { name := "topFuel", fn := fun _ => fun
  | [d1, d2] => { results := [.lit (.bool true)], args := [d1, d2] }
  | _ => none }
def topFuelRow : OpenClaim := { program := "ytblfippmobpaaaadoor", sum := "2088f3e9eb1b71144bbe06daa0fd73261f84126d42c85caed9795abcbb85c948", func := "prow/prowtop.TopFuel", spec := "topFuel", unfollowed := true, recurses := true, named := ["prow/coal.still", "prow/tally.ends", "prow/tally.nothing", "prow/chain.nowhere", "prow/chain.thins"], plainKeys := false, apart := false, laid := [("prow/chain.nowhere", laid_prow_chain_nowhere), ("prow/chain.thins", laid_prow_chain_thins), ("prow/coal.still", laid_prow_coal_still), ("prow/tally.ends", laid_prow_tally_ends), ("prow/tally.nothing", laid_prow_tally_nothing)] }
def TopFuelSaid : Prop := topFuelRow.holds Tryd.pinned (OpenSpec.ofChange topFuelSpec)

/-- ITS FALSE NEIGHBOUR: 'it returns false'. Refute it at one input. -/
def topFuelWrong : ChangeSpec := { name := "topFuel", fn := fun _ => fun
  | [d1, d2] => { results := [.lit (.bool false)], args := [d1, d2] }
  | _ => none }
def TopFuelWrongFalsely : Prop := topFuelRow.holds Tryd.pinned (OpenSpec.ofChange topFuelWrong)

/- THE SECOND FORM. 'bulk': how many values and letters a reading holds, each counted each time it is reached (what is shared counts as often as it is met; a slice's spare places count too). A statement '..UptoSaid' is the law's where the arguments, and the package variables that the reading takes, are together of bulk at most 1048576: NARROWER than '..Said'. Prove '..Said' where nothing that the law and all that it calls make is longer than what came in: it says more and counts as full. Else prove '..UptoSaid'. A law counts once. -/
mutual
def uptoBulk {H : Type} : DataW H → Nat
  | .lit (.string bytes) => bytes.length + 1
  | .lit _ => 1
  | .nil => 1
  | .ptr d => uptoBulk d + 1
  | .slice elems spare => uptoBulkAll elems + uptoBulkAll spare + 1
  | .agg parts => uptoBulkAll parts + 1
  | .iface _ d => uptoBulk d + 1
  | .map entries => uptoBulkEntries entries + 1
  | .held _ => 1
def uptoBulkAll {H : Type} : List (DataW H) → Nat
  | [] => 0
  | d :: r => uptoBulk d + uptoBulkAll r
def uptoBulkEntries {H : Type} : List (Lit × DataW H) → Nat
  | [] => 0
  | x :: r => uptoBulkEntry x + uptoBulkEntries r
def uptoBulkEntry {H : Type} : Lit × DataW H → Nat
  | (.string bytes, d) => bytes.length + uptoBulk d + 1
  | (_, d) => uptoBulk d + 1
 end
def uptoSmall : (H : Type) → List (DataW H) → Bool := fun _ ds => decide (uptoBulkAll ds ≤ 1048576)
def OpenSpec.upto (s : _root_.Go.ChangeSpec) : _root_.Go.OpenSpec := { _root_.Go.OpenSpec.ofChange s with cond := some uptoSmall }

/-- 'prowtop.TopEaten', WHERE WHAT IT READS IS OF BULK AT MOST 1048576: true; the input reads as it did. -/
def topEatenUptoRow : OpenClaim := { program := "ytblfippmobpaaaadoor", sum := "2088f3e9eb1b71144bbe06daa0fd73261f84126d42c85caed9795abcbb85c948", func := "prow/prowtop.TopEaten", spec := "topEaten", unfollowed := true, recurses := true, named := ["prow/coal.still", "prow/tally.ends", "prow/tally.nothing", "prow/chain.nowhere", "prow/chain.thins"], plainKeys := false, apart := false, laid := [("prow/chain.nowhere", laid_prow_chain_nowhere), ("prow/chain.thins", laid_prow_chain_thins), ("prow/coal.still", laid_prow_coal_still), ("prow/tally.ends", laid_prow_tally_ends), ("prow/tally.nothing", laid_prow_tally_nothing)], narrowed := true }
def TopEatenUptoSaid : Prop := topEatenUptoRow.holds Tryd.pinned (OpenSpec.upto topEatenSpec)

/-- 'prowtop.TopFuel', WHERE WHAT IT READS IS OF BULK AT MOST 1048576: true; the input reads as it did. -/
def topFuelUptoRow : OpenClaim := { program := "ytblfippmobpaaaadoor", sum := "2088f3e9eb1b71144bbe06daa0fd73261f84126d42c85caed9795abcbb85c948", func := "prow/prowtop.TopFuel", spec := "topFuel", unfollowed := true, recurses := true, named := ["prow/coal.still", "prow/tally.ends", "prow/tally.nothing", "prow/chain.nowhere", "prow/chain.thins"], plainKeys := false, apart := false, laid := [("prow/chain.nowhere", laid_prow_chain_nowhere), ("prow/chain.thins", laid_prow_chain_thins), ("prow/coal.still", laid_prow_coal_still), ("prow/tally.ends", laid_prow_tally_ends), ("prow/tally.nothing", laid_prow_tally_nothing)], narrowed := true }
def TopFuelUptoSaid : Prop := topFuelUptoRow.holds Tryd.pinned (OpenSpec.upto topFuelSpec)

end Rows
end Go.Proofs.YtblfippmobpaaaaDoor
