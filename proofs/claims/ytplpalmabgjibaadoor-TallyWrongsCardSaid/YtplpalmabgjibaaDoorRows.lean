/-
  NARROWER THAN 'FOR EVERY INPUT', by the rows' own cells (each row's printed sentence says how): TallyManys: laid · TallyCans: laid · TallyWrongs: laid · TallyTrue: laid · TallyEach: laid · TallySum: laid · TallyMore: laid · TallyBack: laid · TallyWrong: laid · TallyWhose: laid · TallyAgain: laid · TallyPlain: laid · TallyKnown: laid.
  DERIVED. THE GIVEN ROWS OF THIS SEAT. 13 by the template 'for every input the law returns true; each argument reads behind the call as it read before'; 0 by the template 'total and deterministic' (their statements: YtplpalmabgjibaaDoorTotals.lean).
  GIVEN WITH THE SEED: the statements are not yours to turn. If you find one false, say at which input.
  Laid BY PROGRAM, IN A SANDBOX (cutbox-rows.mjs): the forced cells as the released guide's own fill.sh prints them over the translation de334edcaca82504… (all of the seat's roots in one cut). By AI agents, Wed Nov 11 2026. No macro, syntax, notation, axiom, sorry.
-/
import Derived.Test.YtplpalmabgjibaaDoorChecked
import GoSem.Claim
import GoSem.ClaimJoined
import GoSem.ClaimMapViews
import Derived.JoinedTies
import Derived.KernelRfl
namespace Go.Proofs.YtplpalmabgjibaaDoor
/- THE CELL 'sum', in the pinned program and in every row, IS THE sha256 OF THE DUMP (.gsa) THAT YtplpalmabgjibaaDoorProg.lean LOADS. Nothing in Lean hashes anything: it is a label: what it is worth is what the hold of that sum in a sandbox is worth. -/
noncomputable def Tryd.pinned : Pinned := { name := "ytplpalmabgjibaadoor", sum := "de334edcaca82504d54f16be3c04346fe49d9e5dbdfd180239345ea7b4f8c64e", checked := Tryd.checked }
namespace Rows
def none {H : Type} : Left H := { results := [], args := [] }

/- WHAT THE LISTED PACKAGE-LEVEL VARIABLES READ AS WHEN THE CALL BEGINS. Each datum BY PROGRAM (the guide's laid-datum.mjs) off the statement by which the dump's own 'gosem.cut.vars' lays the variable. In a bare row this is a premise. The card (YtplpalmabgjibaaDoorCards.lean) ties it to the program's text. -/
def laid_prow_tally_ends {H : Type} : DataW H := .iface "func table" (.agg [.iface "func" (.lit (.string [40, 112, 114, 111, 119, 47, 116, 97, 108, 108, 121, 46, 99, 111, 117, 110, 116, 41, 46, 108, 101, 97, 115, 116])), .iface "func" (.lit (.string [40, 112, 114, 111, 119, 47, 116, 97, 108, 108, 121, 46, 99, 111, 117, 110, 116, 41, 46, 109, 111, 115, 116]))])
def laid_prow_tally_nothing {H : Type} : DataW H := .agg [.lit (.int .i64 (-1)), .lit (.int .i64 (-1))]

/-- 'prowlaw05.TallyManys': WHATEVER THE INPUT: true; the input reads as it did. -/
def tallyManysSpec : ChangeSpec := { name := "tallyManys", fn := fun _ => fun
  | [d1, d2] => { results := [.lit (.bool true)], args := [d1, d2] }
  | _ => none }
def tallyManysRow : OpenClaim := { program := "ytplpalmabgjibaadoor", sum := "de334edcaca82504d54f16be3c04346fe49d9e5dbdfd180239345ea7b4f8c64e", func := "prow/prowlaw05.TallyManys", spec := "tallyManys", unfollowed := true, recurses := true, named := ["prow/tally.ends", "prow/tally.nothing"], plainKeys := false, apart := false, laid := [("prow/tally.ends", laid_prow_tally_ends), ("prow/tally.nothing", laid_prow_tally_nothing)] }
def TallyManysSaid : Prop := tallyManysRow.holds Tryd.pinned (OpenSpec.ofChange tallyManysSpec)

/-- ITS FALSE NEIGHBOUR: 'it returns false'. Refute it at one input. -/
def tallyManysWrong : ChangeSpec := { name := "tallyManys", fn := fun _ => fun
  | [d1, d2] => { results := [.lit (.bool false)], args := [d1, d2] }
  | _ => none }
def TallyManysWrongFalsely : Prop := tallyManysRow.holds Tryd.pinned (OpenSpec.ofChange tallyManysWrong)

/-- 'prowlaw05.TallyCans': WHATEVER THE INPUT: true; the input reads as it did. -/
def tallyCansSpec : ChangeSpec := { name := "tallyCans", fn := fun _ => fun
  | [d1, d2, d3] => { results := [.lit (.bool true)], args := [d1, d2, d3] }
  | _ => none }
def tallyCansRow : OpenClaim := { program := "ytplpalmabgjibaadoor", sum := "de334edcaca82504d54f16be3c04346fe49d9e5dbdfd180239345ea7b4f8c64e", func := "prow/prowlaw05.TallyCans", spec := "tallyCans", unfollowed := true, recurses := true, named := ["prow/tally.ends", "prow/tally.nothing"], plainKeys := false, apart := false, laid := [("prow/tally.ends", laid_prow_tally_ends), ("prow/tally.nothing", laid_prow_tally_nothing)] }
def TallyCansSaid : Prop := tallyCansRow.holds Tryd.pinned (OpenSpec.ofChange tallyCansSpec)

/-- ITS FALSE NEIGHBOUR: 'it returns false'. Refute it at one input. -/
def tallyCansWrong : ChangeSpec := { name := "tallyCans", fn := fun _ => fun
  | [d1, d2, d3] => { results := [.lit (.bool false)], args := [d1, d2, d3] }
  | _ => none }
def TallyCansWrongFalsely : Prop := tallyCansRow.holds Tryd.pinned (OpenSpec.ofChange tallyCansWrong)

/-- 'prowlaw05.TallyWrongs': WHATEVER THE INPUT: true; the input reads as it did. -/
def tallyWrongsSpec : ChangeSpec := { name := "tallyWrongs", fn := fun _ => fun
  | [d] => { results := [.lit (.bool true)], args := [d] }
  | _ => none }
def tallyWrongsRow : OpenClaim := { program := "ytplpalmabgjibaadoor", sum := "de334edcaca82504d54f16be3c04346fe49d9e5dbdfd180239345ea7b4f8c64e", func := "prow/prowlaw05.TallyWrongs", spec := "tallyWrongs", unfollowed := true, recurses := true, named := ["prow/tally.ends", "prow/tally.nothing"], plainKeys := false, apart := false, laid := [("prow/tally.ends", laid_prow_tally_ends), ("prow/tally.nothing", laid_prow_tally_nothing)] }
def TallyWrongsSaid : Prop := tallyWrongsRow.holds Tryd.pinned (OpenSpec.ofChange tallyWrongsSpec)

/-- ITS FALSE NEIGHBOUR: 'it returns false'. Refute it at one input. -/
def tallyWrongsWrong : ChangeSpec := { name := "tallyWrongs", fn := fun _ => fun
  | [d] => { results := [.lit (.bool false)], args := [d] }
  | _ => none }
def TallyWrongsWrongFalsely : Prop := tallyWrongsRow.holds Tryd.pinned (OpenSpec.ofChange tallyWrongsWrong)

/-- 'prowlaw05.TallyTrue': WHATEVER THE INPUT: true; the input reads as it did. -/
def tallyTrueSpec : ChangeSpec := { name := "tallyTrue", fn := fun _ => fun
  | [d1, d2, d3] => { results := [.lit (.bool true)], args := [d1, d2, d3] }
  | _ => none }
def tallyTrueRow : OpenClaim := { program := "ytplpalmabgjibaadoor", sum := "de334edcaca82504d54f16be3c04346fe49d9e5dbdfd180239345ea7b4f8c64e", func := "prow/prowlaw05.TallyTrue", spec := "tallyTrue", unfollowed := true, recurses := true, named := ["prow/tally.ends", "prow/tally.nothing"], plainKeys := false, apart := false, laid := [("prow/tally.ends", laid_prow_tally_ends), ("prow/tally.nothing", laid_prow_tally_nothing)] }
def TallyTrueSaid : Prop := tallyTrueRow.holds Tryd.pinned (OpenSpec.ofChange tallyTrueSpec)

/-- ITS FALSE NEIGHBOUR: 'it returns false'. Refute it at one input. -/
def tallyTrueWrong : ChangeSpec := { name := "tallyTrue", fn := fun _ => fun
  | [d1, d2, d3] => { results := [.lit (.bool false)], args := [d1, d2, d3] }
  | _ => none }
def TallyTrueWrongFalsely : Prop := tallyTrueRow.holds Tryd.pinned (OpenSpec.ofChange tallyTrueWrong)

/-- 'prowlaw05.TallyEach': WHATEVER THE INPUT: true; the input reads as it did. -/
def tallyEachSpec : ChangeSpec := { name := "tallyEach", fn := fun _ => fun
  | [d1, d2] => { results := [.lit (.bool true)], args := [d1, d2] }
  | _ => none }
def tallyEachRow : OpenClaim := { program := "ytplpalmabgjibaadoor", sum := "de334edcaca82504d54f16be3c04346fe49d9e5dbdfd180239345ea7b4f8c64e", func := "prow/prowlaw05.TallyEach", spec := "tallyEach", unfollowed := true, recurses := true, named := ["prow/tally.ends", "prow/tally.nothing"], plainKeys := false, apart := false, laid := [("prow/tally.ends", laid_prow_tally_ends), ("prow/tally.nothing", laid_prow_tally_nothing)] }
def TallyEachSaid : Prop := tallyEachRow.holds Tryd.pinned (OpenSpec.ofChange tallyEachSpec)

/-- ITS FALSE NEIGHBOUR: 'it returns false'. Refute it at one input. -/
def tallyEachWrong : ChangeSpec := { name := "tallyEach", fn := fun _ => fun
  | [d1, d2] => { results := [.lit (.bool false)], args := [d1, d2] }
  | _ => none }
def TallyEachWrongFalsely : Prop := tallyEachRow.holds Tryd.pinned (OpenSpec.ofChange tallyEachWrong)

/-- 'prowlaw05.TallySum': WHATEVER THE INPUT: true; the input reads as it did. -/
def tallySumSpec : ChangeSpec := { name := "tallySum", fn := fun _ => fun
  | [d1, d2] => { results := [.lit (.bool true)], args := [d1, d2] }
  | _ => none }
def tallySumRow : OpenClaim := { program := "ytplpalmabgjibaadoor", sum := "de334edcaca82504d54f16be3c04346fe49d9e5dbdfd180239345ea7b4f8c64e", func := "prow/prowlaw05.TallySum", spec := "tallySum", unfollowed := true, recurses := true, named := ["prow/tally.ends", "prow/tally.nothing"], plainKeys := false, apart := false, laid := [("prow/tally.ends", laid_prow_tally_ends), ("prow/tally.nothing", laid_prow_tally_nothing)] }
def TallySumSaid : Prop := tallySumRow.holds Tryd.pinned (OpenSpec.ofChange tallySumSpec)

/-- ITS FALSE NEIGHBOUR: 'it returns false'. Refute it at one input. -/
def tallySumWrong : ChangeSpec := { name := "tallySum", fn := fun _ => fun
  | [d1, d2] => { results := [.lit (.bool false)], args := [d1, d2] }
  | _ => none }
def TallySumWrongFalsely : Prop := tallySumRow.holds Tryd.pinned (OpenSpec.ofChange tallySumWrong)

/-- 'prowlaw05.TallyMore': WHATEVER THE INPUT: true; the input reads as it did. -/
def tallyMoreSpec : ChangeSpec := { name := "tallyMore", fn := fun _ => fun
  | [d1, d2, d3] => { results := [.lit (.bool true)], args := [d1, d2, d3] }
  | _ => none }
def tallyMoreRow : OpenClaim := { program := "ytplpalmabgjibaadoor", sum := "de334edcaca82504d54f16be3c04346fe49d9e5dbdfd180239345ea7b4f8c64e", func := "prow/prowlaw05.TallyMore", spec := "tallyMore", unfollowed := true, recurses := true, named := ["prow/tally.ends", "prow/tally.nothing"], plainKeys := false, apart := false, laid := [("prow/tally.ends", laid_prow_tally_ends), ("prow/tally.nothing", laid_prow_tally_nothing)] }
def TallyMoreSaid : Prop := tallyMoreRow.holds Tryd.pinned (OpenSpec.ofChange tallyMoreSpec)

/-- ITS FALSE NEIGHBOUR: 'it returns false'. Refute it at one input. -/
def tallyMoreWrong : ChangeSpec := { name := "tallyMore", fn := fun _ => fun
  | [d1, d2, d3] => { results := [.lit (.bool false)], args := [d1, d2, d3] }
  | _ => none }
def TallyMoreWrongFalsely : Prop := tallyMoreRow.holds Tryd.pinned (OpenSpec.ofChange tallyMoreWrong)

/-- 'prowlaw05.TallyBack': WHATEVER THE INPUT: true; the input reads as it did. -/
def tallyBackSpec : ChangeSpec := { name := "tallyBack", fn := fun _ => fun
  | [d1, d2] => { results := [.lit (.bool true)], args := [d1, d2] }
  | _ => none }
def tallyBackRow : OpenClaim := { program := "ytplpalmabgjibaadoor", sum := "de334edcaca82504d54f16be3c04346fe49d9e5dbdfd180239345ea7b4f8c64e", func := "prow/prowlaw05.TallyBack", spec := "tallyBack", unfollowed := true, recurses := true, named := ["prow/tally.ends", "prow/tally.nothing"], plainKeys := false, apart := false, laid := [("prow/tally.ends", laid_prow_tally_ends), ("prow/tally.nothing", laid_prow_tally_nothing)] }
def TallyBackSaid : Prop := tallyBackRow.holds Tryd.pinned (OpenSpec.ofChange tallyBackSpec)

/-- ITS FALSE NEIGHBOUR: 'it returns false'. Refute it at one input. -/
def tallyBackWrong : ChangeSpec := { name := "tallyBack", fn := fun _ => fun
  | [d1, d2] => { results := [.lit (.bool false)], args := [d1, d2] }
  | _ => none }
def TallyBackWrongFalsely : Prop := tallyBackRow.holds Tryd.pinned (OpenSpec.ofChange tallyBackWrong)

/-- 'prowlaw05.TallyWrong': WHATEVER THE INPUT: true; the input reads as it did. -/
def tallyWrongSpec : ChangeSpec := { name := "tallyWrong", fn := fun _ => fun
  | [d1, d2] => { results := [.lit (.bool true)], args := [d1, d2] }
  | _ => none }
def tallyWrongRow : OpenClaim := { program := "ytplpalmabgjibaadoor", sum := "de334edcaca82504d54f16be3c04346fe49d9e5dbdfd180239345ea7b4f8c64e", func := "prow/prowlaw05.TallyWrong", spec := "tallyWrong", unfollowed := true, recurses := true, named := ["prow/tally.ends", "prow/tally.nothing"], plainKeys := false, apart := false, laid := [("prow/tally.ends", laid_prow_tally_ends), ("prow/tally.nothing", laid_prow_tally_nothing)] }
def TallyWrongSaid : Prop := tallyWrongRow.holds Tryd.pinned (OpenSpec.ofChange tallyWrongSpec)

/-- ITS FALSE NEIGHBOUR: 'it returns false'. Refute it at one input. -/
def tallyWrongWrong : ChangeSpec := { name := "tallyWrong", fn := fun _ => fun
  | [d1, d2] => { results := [.lit (.bool false)], args := [d1, d2] }
  | _ => none }
def TallyWrongWrongFalsely : Prop := tallyWrongRow.holds Tryd.pinned (OpenSpec.ofChange tallyWrongWrong)

/-- 'prowlaw05.TallyWhose': WHATEVER THE INPUT: true; the input reads as it did. -/
def tallyWhoseSpec : ChangeSpec := { name := "tallyWhose", fn := fun _ => fun
  | [d1, d2] => { results := [.lit (.bool true)], args := [d1, d2] }
  | _ => none }
def tallyWhoseRow : OpenClaim := { program := "ytplpalmabgjibaadoor", sum := "de334edcaca82504d54f16be3c04346fe49d9e5dbdfd180239345ea7b4f8c64e", func := "prow/prowlaw05.TallyWhose", spec := "tallyWhose", unfollowed := true, recurses := true, named := ["prow/tally.ends", "prow/tally.nothing"], plainKeys := false, apart := false, laid := [("prow/tally.ends", laid_prow_tally_ends), ("prow/tally.nothing", laid_prow_tally_nothing)] }
def TallyWhoseSaid : Prop := tallyWhoseRow.holds Tryd.pinned (OpenSpec.ofChange tallyWhoseSpec)

/-- ITS FALSE NEIGHBOUR: 'it returns false'. Refute it at one input. -/
def tallyWhoseWrong : ChangeSpec := { name := "tallyWhose", fn := fun _ => fun
  | [d1, d2] => { results := [.lit (.bool false)], args := [d1, d2] }
  | _ => none }
def TallyWhoseWrongFalsely : Prop := tallyWhoseRow.holds Tryd.pinned (OpenSpec.ofChange tallyWhoseWrong)

/-- 'prowlaw05.TallyAgain': WHATEVER THE INPUT: true; the input reads as it did. -/
def tallyAgainSpec : ChangeSpec := { name := "tallyAgain", fn := fun _ => fun
  | [d1, d2] => { results := [.lit (.bool true)], args := [d1, d2] }
  | _ => none }
def tallyAgainRow : OpenClaim := { program := "ytplpalmabgjibaadoor", sum := "de334edcaca82504d54f16be3c04346fe49d9e5dbdfd180239345ea7b4f8c64e", func := "prow/prowlaw05.TallyAgain", spec := "tallyAgain", unfollowed := true, recurses := true, named := ["prow/tally.ends", "prow/tally.nothing"], plainKeys := false, apart := false, laid := [("prow/tally.ends", laid_prow_tally_ends), ("prow/tally.nothing", laid_prow_tally_nothing)] }
def TallyAgainSaid : Prop := tallyAgainRow.holds Tryd.pinned (OpenSpec.ofChange tallyAgainSpec)

/-- ITS FALSE NEIGHBOUR: 'it returns false'. Refute it at one input. -/
def tallyAgainWrong : ChangeSpec := { name := "tallyAgain", fn := fun _ => fun
  | [d1, d2] => { results := [.lit (.bool false)], args := [d1, d2] }
  | _ => none }
def TallyAgainWrongFalsely : Prop := tallyAgainRow.holds Tryd.pinned (OpenSpec.ofChange tallyAgainWrong)

/-- 'prowlaw05.TallyPlain': WHATEVER THE INPUT: true; the input reads as it did. -/
def tallyPlainSpec : ChangeSpec := { name := "tallyPlain", fn := fun _ => fun
  | [d] => { results := [.lit (.bool true)], args := [d] }
  | _ => none }
def tallyPlainRow : OpenClaim := { program := "ytplpalmabgjibaadoor", sum := "de334edcaca82504d54f16be3c04346fe49d9e5dbdfd180239345ea7b4f8c64e", func := "prow/prowlaw05.TallyPlain", spec := "tallyPlain", unfollowed := true, recurses := true, named := ["prow/tally.ends", "prow/tally.nothing"], plainKeys := false, apart := false, laid := [("prow/tally.ends", laid_prow_tally_ends), ("prow/tally.nothing", laid_prow_tally_nothing)] }
def TallyPlainSaid : Prop := tallyPlainRow.holds Tryd.pinned (OpenSpec.ofChange tallyPlainSpec)

/-- ITS FALSE NEIGHBOUR: 'it returns false'. Refute it at one input. -/
def tallyPlainWrong : ChangeSpec := { name := "tallyPlain", fn := fun _ => fun
  | [d] => { results := [.lit (.bool false)], args := [d] }
  | _ => none }
def TallyPlainWrongFalsely : Prop := tallyPlainRow.holds Tryd.pinned (OpenSpec.ofChange tallyPlainWrong)

/-- 'prowlaw05.TallyKnown': WHATEVER THE INPUT: true; the input reads as it did. -/
def tallyKnownSpec : ChangeSpec := { name := "tallyKnown", fn := fun _ => fun
  | [] => { results := [.lit (.bool true)], args := [] }
  | _ => none }
def tallyKnownRow : OpenClaim := { program := "ytplpalmabgjibaadoor", sum := "de334edcaca82504d54f16be3c04346fe49d9e5dbdfd180239345ea7b4f8c64e", func := "prow/prowlaw05.TallyKnown", spec := "tallyKnown", unfollowed := true, recurses := true, named := ["prow/tally.ends", "prow/tally.nothing"], plainKeys := false, apart := false, laid := [("prow/tally.ends", laid_prow_tally_ends), ("prow/tally.nothing", laid_prow_tally_nothing)] }
def TallyKnownSaid : Prop := tallyKnownRow.holds Tryd.pinned (OpenSpec.ofChange tallyKnownSpec)

/-- ITS FALSE NEIGHBOUR: 'it returns false'. Refute it at one input. -/
def tallyKnownWrong : ChangeSpec := { name := "tallyKnown", fn := fun _ => fun
  | [] => { results := [.lit (.bool false)], args := [] }
  | _ => none }
def TallyKnownWrongFalsely : Prop := tallyKnownRow.holds Tryd.pinned (OpenSpec.ofChange tallyKnownWrong)

/- THE SECOND FORM. 'bulk': how many values and letters a reading holds, each counted each time it is reached (what is shared counts as often as it is met; a slice's spare places count too). A statement '..UptoSaid' is the law's where the arguments, and the package variables that the reading takes, are together of bulk at most 1048576: NARROWER than '..Said'. Prove '..Said' where nothing that the law and all that it calls make is longer than what came in: it says more and counts as full. Else prove '..UptoSaid'. A law counts once. -/
mutual
def uptoBulk {H : Type} : DataW H → Nat
  | .lit (.string bytes) => bytes.length + 1
  | .lit _ => 1
  | .nil => 1
  | .ptr d => uptoBulk d + 1
  | .slice elems spare => uptoBulkAll elems + uptoBulkAll spare + 1
  | .agg parts => uptoBulkAll parts + 1
  | .iface _ d => uptoBulk d + 1
  | .map entries => uptoBulkEntries entries + 1
  | .held _ => 1
def uptoBulkAll {H : Type} : List (DataW H) → Nat
  | [] => 0
  | d :: r => uptoBulk d + uptoBulkAll r
def uptoBulkEntries {H : Type} : List (Lit × DataW H) → Nat
  | [] => 0
  | x :: r => uptoBulkEntry x + uptoBulkEntries r
def uptoBulkEntry {H : Type} : Lit × DataW H → Nat
  | (.string bytes, d) => bytes.length + uptoBulk d + 1
  | (_, d) => uptoBulk d + 1
 end
def uptoSmall : (H : Type) → List (DataW H) → Bool := fun _ ds => decide (uptoBulkAll ds ≤ 1048576)
def OpenSpec.upto (s : _root_.Go.ChangeSpec) : _root_.Go.OpenSpec := { _root_.Go.OpenSpec.ofChange s with cond := some uptoSmall }

/-- 'prowlaw05.TallyManys', WHERE WHAT IT READS IS OF BULK AT MOST 1048576: true; the input reads as it did. -/
def tallyManysUptoRow : OpenClaim := { program := "ytplpalmabgjibaadoor", sum := "de334edcaca82504d54f16be3c04346fe49d9e5dbdfd180239345ea7b4f8c64e", func := "prow/prowlaw05.TallyManys", spec := "tallyManys", unfollowed := true, recurses := true, named := ["prow/tally.ends", "prow/tally.nothing"], plainKeys := false, apart := false, laid := [("prow/tally.ends", laid_prow_tally_ends), ("prow/tally.nothing", laid_prow_tally_nothing)], narrowed := true }
def TallyManysUptoSaid : Prop := tallyManysUptoRow.holds Tryd.pinned (OpenSpec.upto tallyManysSpec)

/-- 'prowlaw05.TallyCans', WHERE WHAT IT READS IS OF BULK AT MOST 1048576: true; the input reads as it did. -/
def tallyCansUptoRow : OpenClaim := { program := "ytplpalmabgjibaadoor", sum := "de334edcaca82504d54f16be3c04346fe49d9e5dbdfd180239345ea7b4f8c64e", func := "prow/prowlaw05.TallyCans", spec := "tallyCans", unfollowed := true, recurses := true, named := ["prow/tally.ends", "prow/tally.nothing"], plainKeys := false, apart := false, laid := [("prow/tally.ends", laid_prow_tally_ends), ("prow/tally.nothing", laid_prow_tally_nothing)], narrowed := true }
def TallyCansUptoSaid : Prop := tallyCansUptoRow.holds Tryd.pinned (OpenSpec.upto tallyCansSpec)

/-- 'prowlaw05.TallyWrongs', WHERE WHAT IT READS IS OF BULK AT MOST 1048576: true; the input reads as it did. -/
def tallyWrongsUptoRow : OpenClaim := { program := "ytplpalmabgjibaadoor", sum := "de334edcaca82504d54f16be3c04346fe49d9e5dbdfd180239345ea7b4f8c64e", func := "prow/prowlaw05.TallyWrongs", spec := "tallyWrongs", unfollowed := true, recurses := true, named := ["prow/tally.ends", "prow/tally.nothing"], plainKeys := false, apart := false, laid := [("prow/tally.ends", laid_prow_tally_ends), ("prow/tally.nothing", laid_prow_tally_nothing)], narrowed := true }
def TallyWrongsUptoSaid : Prop := tallyWrongsUptoRow.holds Tryd.pinned (OpenSpec.upto tallyWrongsSpec)

/-- 'prowlaw05.TallyTrue', WHERE WHAT IT READS IS OF BULK AT MOST 1048576: true; the input reads as it did. -/
def tallyTrueUptoRow : OpenClaim := { program := "ytplpalmabgjibaadoor", sum := "de334edcaca82504d54f16be3c04346fe49d9e5dbdfd180239345ea7b4f8c64e", func := "prow/prowlaw05.TallyTrue", spec := "tallyTrue", unfollowed := true, recurses := true, named := ["prow/tally.ends", "prow/tally.nothing"], plainKeys := false, apart := false, laid := [("prow/tally.ends", laid_prow_tally_ends), ("prow/tally.nothing", laid_prow_tally_nothing)], narrowed := true }
def TallyTrueUptoSaid : Prop := tallyTrueUptoRow.holds Tryd.pinned (OpenSpec.upto tallyTrueSpec)

/-- 'prowlaw05.TallyEach', WHERE WHAT IT READS IS OF BULK AT MOST 1048576: true; the input reads as it did. -/
def tallyEachUptoRow : OpenClaim := { program := "ytplpalmabgjibaadoor", sum := "de334edcaca82504d54f16be3c04346fe49d9e5dbdfd180239345ea7b4f8c64e", func := "prow/prowlaw05.TallyEach", spec := "tallyEach", unfollowed := true, recurses := true, named := ["prow/tally.ends", "prow/tally.nothing"], plainKeys := false, apart := false, laid := [("prow/tally.ends", laid_prow_tally_ends), ("prow/tally.nothing", laid_prow_tally_nothing)], narrowed := true }
def TallyEachUptoSaid : Prop := tallyEachUptoRow.holds Tryd.pinned (OpenSpec.upto tallyEachSpec)

/-- 'prowlaw05.TallySum', WHERE WHAT IT READS IS OF BULK AT MOST 1048576: true; the input reads as it did. -/
def tallySumUptoRow : OpenClaim := { program := "ytplpalmabgjibaadoor", sum := "de334edcaca82504d54f16be3c04346fe49d9e5dbdfd180239345ea7b4f8c64e", func := "prow/prowlaw05.TallySum", spec := "tallySum", unfollowed := true, recurses := true, named := ["prow/tally.ends", "prow/tally.nothing"], plainKeys := false, apart := false, laid := [("prow/tally.ends", laid_prow_tally_ends), ("prow/tally.nothing", laid_prow_tally_nothing)], narrowed := true }
def TallySumUptoSaid : Prop := tallySumUptoRow.holds Tryd.pinned (OpenSpec.upto tallySumSpec)

/-- 'prowlaw05.TallyMore', WHERE WHAT IT READS IS OF BULK AT MOST 1048576: true; the input reads as it did. -/
def tallyMoreUptoRow : OpenClaim := { program := "ytplpalmabgjibaadoor", sum := "de334edcaca82504d54f16be3c04346fe49d9e5dbdfd180239345ea7b4f8c64e", func := "prow/prowlaw05.TallyMore", spec := "tallyMore", unfollowed := true, recurses := true, named := ["prow/tally.ends", "prow/tally.nothing"], plainKeys := false, apart := false, laid := [("prow/tally.ends", laid_prow_tally_ends), ("prow/tally.nothing", laid_prow_tally_nothing)], narrowed := true }
def TallyMoreUptoSaid : Prop := tallyMoreUptoRow.holds Tryd.pinned (OpenSpec.upto tallyMoreSpec)

/-- 'prowlaw05.TallyBack', WHERE WHAT IT READS IS OF BULK AT MOST 1048576: true; the input reads as it did. -/
def tallyBackUptoRow : OpenClaim := { program := "ytplpalmabgjibaadoor", sum := "de334edcaca82504d54f16be3c04346fe49d9e5dbdfd180239345ea7b4f8c64e", func := "prow/prowlaw05.TallyBack", spec := "tallyBack", unfollowed := true, recurses := true, named := ["prow/tally.ends", "prow/tally.nothing"], plainKeys := false, apart := false, laid := [("prow/tally.ends", laid_prow_tally_ends), ("prow/tally.nothing", laid_prow_tally_nothing)], narrowed := true }
def TallyBackUptoSaid : Prop := tallyBackUptoRow.holds Tryd.pinned (OpenSpec.upto tallyBackSpec)

/-- 'prowlaw05.TallyWrong', WHERE WHAT IT READS IS OF BULK AT MOST 1048576: true; the input reads as it did. -/
def tallyWrongUptoRow : OpenClaim := { program := "ytplpalmabgjibaadoor", sum := "de334edcaca82504d54f16be3c04346fe49d9e5dbdfd180239345ea7b4f8c64e", func := "prow/prowlaw05.TallyWrong", spec := "tallyWrong", unfollowed := true, recurses := true, named := ["prow/tally.ends", "prow/tally.nothing"], plainKeys := false, apart := false, laid := [("prow/tally.ends", laid_prow_tally_ends), ("prow/tally.nothing", laid_prow_tally_nothing)], narrowed := true }
def TallyWrongUptoSaid : Prop := tallyWrongUptoRow.holds Tryd.pinned (OpenSpec.upto tallyWrongSpec)

/-- 'prowlaw05.TallyWhose', WHERE WHAT IT READS IS OF BULK AT MOST 1048576: true; the input reads as it did. -/
def tallyWhoseUptoRow : OpenClaim := { program := "ytplpalmabgjibaadoor", sum := "de334edcaca82504d54f16be3c04346fe49d9e5dbdfd180239345ea7b4f8c64e", func := "prow/prowlaw05.TallyWhose", spec := "tallyWhose", unfollowed := true, recurses := true, named := ["prow/tally.ends", "prow/tally.nothing"], plainKeys := false, apart := false, laid := [("prow/tally.ends", laid_prow_tally_ends), ("prow/tally.nothing", laid_prow_tally_nothing)], narrowed := true }
def TallyWhoseUptoSaid : Prop := tallyWhoseUptoRow.holds Tryd.pinned (OpenSpec.upto tallyWhoseSpec)

/-- 'prowlaw05.TallyAgain', WHERE WHAT IT READS IS OF BULK AT MOST 1048576: true; the input reads as it did. -/
def tallyAgainUptoRow : OpenClaim := { program := "ytplpalmabgjibaadoor", sum := "de334edcaca82504d54f16be3c04346fe49d9e5dbdfd180239345ea7b4f8c64e", func := "prow/prowlaw05.TallyAgain", spec := "tallyAgain", unfollowed := true, recurses := true, named := ["prow/tally.ends", "prow/tally.nothing"], plainKeys := false, apart := false, laid := [("prow/tally.ends", laid_prow_tally_ends), ("prow/tally.nothing", laid_prow_tally_nothing)], narrowed := true }
def TallyAgainUptoSaid : Prop := tallyAgainUptoRow.holds Tryd.pinned (OpenSpec.upto tallyAgainSpec)

/-- 'prowlaw05.TallyPlain', WHERE WHAT IT READS IS OF BULK AT MOST 1048576: true; the input reads as it did. -/
def tallyPlainUptoRow : OpenClaim := { program := "ytplpalmabgjibaadoor", sum := "de334edcaca82504d54f16be3c04346fe49d9e5dbdfd180239345ea7b4f8c64e", func := "prow/prowlaw05.TallyPlain", spec := "tallyPlain", unfollowed := true, recurses := true, named := ["prow/tally.ends", "prow/tally.nothing"], plainKeys := false, apart := false, laid := [("prow/tally.ends", laid_prow_tally_ends), ("prow/tally.nothing", laid_prow_tally_nothing)], narrowed := true }
def TallyPlainUptoSaid : Prop := tallyPlainUptoRow.holds Tryd.pinned (OpenSpec.upto tallyPlainSpec)

/-- 'prowlaw05.TallyKnown', WHERE WHAT IT READS IS OF BULK AT MOST 1048576: true; the input reads as it did. -/
def tallyKnownUptoRow : OpenClaim := { program := "ytplpalmabgjibaadoor", sum := "de334edcaca82504d54f16be3c04346fe49d9e5dbdfd180239345ea7b4f8c64e", func := "prow/prowlaw05.TallyKnown", spec := "tallyKnown", unfollowed := true, recurses := true, named := ["prow/tally.ends", "prow/tally.nothing"], plainKeys := false, apart := false, laid := [("prow/tally.ends", laid_prow_tally_ends), ("prow/tally.nothing", laid_prow_tally_nothing)], narrowed := true }
def TallyKnownUptoSaid : Prop := tallyKnownUptoRow.holds Tryd.pinned (OpenSpec.upto tallyKnownSpec)

end Rows
end Go.Proofs.YtplpalmabgjibaaDoor
