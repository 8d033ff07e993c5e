/-
  NARROWER THAN 'FOR EVERY INPUT', by the rows' own cells (each row's printed sentence says how): TallyKnown: laid.
  DERIVED. THE GIVEN ROWS OF THIS SEAT. 1 by the template 'for every input the law returns true; each argument reads behind the call as it read before'; 0 by the template 'total and deterministic' (their statements: YthimckediigcoaaDoorTotals.lean).
  GIVEN WITH THE SEED: the statements are not yours to turn. If you find one false, say at which input.
  Laid BY PROGRAM, IN A SANDBOX (cutbox-rows.mjs): the forced cells as the released guide's own fill.sh prints them over the translation c45240a5856950d4… (all of the seat's roots in one cut). By AI agents, Wed Nov 11 2026. No macro, syntax, notation, axiom, sorry.
-/
import Derived.Test.YthimckediigcoaaDoorChecked
import GoSem.Claim
import GoSem.ClaimJoined
import GoSem.ClaimMapViews
import Derived.JoinedTies
import Derived.KernelRfl
namespace Go.Proofs.YthimckediigcoaaDoor
/- THE CELL 'sum', in the pinned program and in every row, IS THE sha256 OF THE DUMP (.gsa) THAT YthimckediigcoaaDoorProg.lean LOADS. Nothing in Lean hashes anything: it is a label: what it is worth is what the hold of that sum in a sandbox is worth. -/
noncomputable def Tryd.pinned : Pinned := { name := "ythimckediigcoaadoor", sum := "c45240a5856950d4eae4189e424969fcc3481536a7181baf0b1eb738f33de9f5", checked := Tryd.checked }
namespace Rows
def none {H : Type} : Left H := { results := [], args := [] }

/- WHAT THE LISTED PACKAGE-LEVEL VARIABLES READ AS WHEN THE CALL BEGINS. Each datum BY PROGRAM (the guide's laid-datum.mjs) off the statement by which the dump's own 'gosem.cut.vars' lays the variable. In a bare row this is a premise. The card (YthimckediigcoaaDoorCards.lean) ties it to the program's text. -/
def laid_prow_tally_ends {H : Type} : DataW H := .iface "func table" (.agg [.iface "func" (.lit (.string [40, 112, 114, 111, 119, 47, 116, 97, 108, 108, 121, 46, 99, 111, 117, 110, 116, 41, 46, 108, 101, 97, 115, 116])), .iface "func" (.lit (.string [40, 112, 114, 111, 119, 47, 116, 97, 108, 108, 121, 46, 99, 111, 117, 110, 116, 41, 46, 109, 111, 115, 116]))])
def laid_prow_tally_nothing {H : Type} : DataW H := .agg [.lit (.int .i64 (-1)), .lit (.int .i64 (-1))]

/-- 'prowlaw05.TallyKnown': WHATEVER THE INPUT: true; the input reads as it did. -/
def tallyKnownSpec : ChangeSpec := { name := "tallyKnown", fn := fun _ => fun
  | [] => { results := [.lit (.bool true)], args := [] }
  | _ => none }
def tallyKnownRow : OpenClaim := { program := "ythimckediigcoaadoor", sum := "c45240a5856950d4eae4189e424969fcc3481536a7181baf0b1eb738f33de9f5", func := "prow/prowlaw05.TallyKnown", spec := "tallyKnown", unfollowed := true, recurses := true, named := ["prow/tally.ends", "prow/tally.nothing"], plainKeys := false, apart := false, laid := [("prow/tally.ends", laid_prow_tally_ends), ("prow/tally.nothing", laid_prow_tally_nothing)] }
def TallyKnownSaid : Prop := tallyKnownRow.holds Tryd.pinned (OpenSpec.ofChange tallyKnownSpec)

/-- ITS FALSE NEIGHBOUR: 'it returns false'. Refute it at one input. -/
def tallyKnownWrong : ChangeSpec := { name := "tallyKnown", fn := fun _ => fun
  | [] => { results := [.lit (.bool false)], args := [] }
  | _ => none }
def TallyKnownWrongFalsely : Prop := tallyKnownRow.holds Tryd.pinned (OpenSpec.ofChange tallyKnownWrong)

/- THE SECOND FORM. 'bulk': how many values and letters a reading holds, each counted each time it is reached (what is shared counts as often as it is met; a slice's spare places count too). A statement '..UptoSaid' is the law's where the arguments, and the package variables that the reading takes, are together of bulk at most 1048576: NARROWER than '..Said'. Prove '..Said' where nothing that the law and all that it calls make is longer than what came in: it says more and counts as full. Else prove '..UptoSaid'. A law counts once. -/
mutual
def uptoBulk {H : Type} : DataW H → Nat
  | .lit (.string bytes) => bytes.length + 1
  | .lit _ => 1
  | .nil => 1
  | .ptr d => uptoBulk d + 1
  | .slice elems spare => uptoBulkAll elems + uptoBulkAll spare + 1
  | .agg parts => uptoBulkAll parts + 1
  | .iface _ d => uptoBulk d + 1
  | .map entries => uptoBulkEntries entries + 1
  | .held _ => 1
def uptoBulkAll {H : Type} : List (DataW H) → Nat
  | [] => 0
  | d :: r => uptoBulk d + uptoBulkAll r
def uptoBulkEntries {H : Type} : List (Lit × DataW H) → Nat
  | [] => 0
  | x :: r => uptoBulkEntry x + uptoBulkEntries r
def uptoBulkEntry {H : Type} : Lit × DataW H → Nat
  | (.string bytes, d) => bytes.length + uptoBulk d + 1
  | (_, d) => uptoBulk d + 1
 end
def uptoSmall : (H : Type) → List (DataW H) → Bool := fun _ ds => decide (uptoBulkAll ds ≤ 1048576)
def OpenSpec.upto (s : _root_.Go.ChangeSpec) : _root_.Go.OpenSpec := { _root_.Go.OpenSpec.ofChange s with cond := some uptoSmall }

/-- 'prowlaw05.TallyKnown', WHERE WHAT IT READS IS OF BULK AT MOST 1048576: true; the input reads as it did. -/
def tallyKnownUptoRow : OpenClaim := { program := "ythimckediigcoaadoor", sum := "c45240a5856950d4eae4189e424969fcc3481536a7181baf0b1eb738f33de9f5", func := "prow/prowlaw05.TallyKnown", spec := "tallyKnown", unfollowed := true, recurses := true, named := ["prow/tally.ends", "prow/tally.nothing"], plainKeys := false, apart := false, laid := [("prow/tally.ends", laid_prow_tally_ends), ("prow/tally.nothing", laid_prow_tally_nothing)], narrowed := true }
def TallyKnownUptoSaid : Prop := tallyKnownUptoRow.holds Tryd.pinned (OpenSpec.upto tallyKnownSpec)

end Rows
end Go.Proofs.YthimckediigcoaaDoor
