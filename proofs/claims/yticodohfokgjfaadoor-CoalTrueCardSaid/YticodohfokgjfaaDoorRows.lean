/-
  NARROWER THAN 'FOR EVERY INPUT', by the rows' own cells (each row's printed sentence says how): CoalHeaps: laid · CoalDays: laid · CoalWrongs: laid · CoalTrue: laid · CoalEnds: laid · CoalMore: laid · CoalOrder: laid · CoalHigher: laid · CoalDay: laid · CoalLate: laid · CoalEasier: laid · CoalWrong: laid · CoalKnown: laid.
  DERIVED. THE GIVEN ROWS OF THIS SEAT. 13 by the template 'for every input the law returns true; each argument reads behind the call as it read before'; 0 by the template 'total and deterministic' (their statements: YticodohfokgjfaaDoorTotals.lean).
  GIVEN WITH THE SEED: the statements are not yours to turn. If you find one false, say at which input.
  Laid BY PROGRAM, IN A SANDBOX (cutbox-rows.mjs): the forced cells as the released guide's own fill.sh prints them over the translation e0fdcf6d43b11de8… (all of the seat's roots in one cut). By AI agents, Wed Nov 11 2026. No macro, syntax, notation, axiom, sorry.
-/
import Derived.Test.YticodohfokgjfaaDoorChecked
import GoSem.Claim
import GoSem.ClaimJoined
import GoSem.ClaimMapViews
import Derived.JoinedTies
import Derived.KernelRfl
namespace Go.Proofs.YticodohfokgjfaaDoor
/- THE CELL 'sum', in the pinned program and in every row, IS THE sha256 OF THE DUMP (.gsa) THAT YticodohfokgjfaaDoorProg.lean LOADS. Nothing in Lean hashes anything: it is a label: what it is worth is what the hold of that sum in a sandbox is worth. -/
noncomputable def Tryd.pinned : Pinned := { name := "yticodohfokgjfaadoor", sum := "e0fdcf6d43b11de83b029da13043370e17e9dfd8ec40835bd27af4c7cbeaec07", checked := Tryd.checked }
namespace Rows
def none {H : Type} : Left H := { results := [], args := [] }

/- WHAT THE LISTED PACKAGE-LEVEL VARIABLES READ AS WHEN THE CALL BEGINS. Each datum BY PROGRAM (the guide's laid-datum.mjs) off the statement by which the dump's own 'gosem.cut.vars' lays the variable. In a bare row this is a premise. The card (YticodohfokgjfaaDoorCards.lean) ties it to the program's text. -/
def laid_prow_coal_still {H : Type} : DataW H := .agg [.lit (.int .i64 (-1)), .lit (.int .i64 (-1))]
def laid_prow_coal_asks {H : Type} : DataW H := .iface "func table" (.agg [.iface "func" (.lit (.string [40, 112, 114, 111, 119, 47, 99, 111, 97, 108, 46, 98, 111, 111, 107, 41, 46, 115, 111, 109, 101])), .iface "func" (.lit (.string [40, 112, 114, 111, 119, 47, 99, 111, 97, 108, 46, 98, 111, 111, 107, 41, 46, 101, 97, 99, 104]))])

/-- 'prowlaw06.CoalHeaps': WHATEVER THE INPUT: true; the input reads as it did. -/
def coalHeapsSpec : ChangeSpec := { name := "coalHeaps", fn := fun _ => fun
  | [d1, d2] => { results := [.lit (.bool true)], args := [d1, d2] }
  | _ => none }
def coalHeapsRow : OpenClaim := { program := "yticodohfokgjfaadoor", sum := "e0fdcf6d43b11de83b029da13043370e17e9dfd8ec40835bd27af4c7cbeaec07", func := "prow/prowlaw06.CoalHeaps", spec := "coalHeaps", unfollowed := true, recurses := true, named := ["prow/coal.still", "prow/coal.asks"], plainKeys := false, apart := false, laid := [("prow/coal.still", laid_prow_coal_still), ("prow/coal.asks", laid_prow_coal_asks)] }
def CoalHeapsSaid : Prop := coalHeapsRow.holds Tryd.pinned (OpenSpec.ofChange coalHeapsSpec)

/-- ITS FALSE NEIGHBOUR: 'it returns false'. Refute it at one input. -/
def coalHeapsWrong : ChangeSpec := { name := "coalHeaps", fn := fun _ => fun
  | [d1, d2] => { results := [.lit (.bool false)], args := [d1, d2] }
  | _ => none }
def CoalHeapsWrongFalsely : Prop := coalHeapsRow.holds Tryd.pinned (OpenSpec.ofChange coalHeapsWrong)

/-- 'prowlaw06.CoalDays': WHATEVER THE INPUT: true; the input reads as it did. -/
def coalDaysSpec : ChangeSpec := { name := "coalDays", fn := fun _ => fun
  | [d1, d2] => { results := [.lit (.bool true)], args := [d1, d2] }
  | _ => none }
def coalDaysRow : OpenClaim := { program := "yticodohfokgjfaadoor", sum := "e0fdcf6d43b11de83b029da13043370e17e9dfd8ec40835bd27af4c7cbeaec07", func := "prow/prowlaw06.CoalDays", spec := "coalDays", unfollowed := true, recurses := true, named := ["prow/coal.asks", "prow/coal.still"], plainKeys := false, apart := false, laid := [("prow/coal.still", laid_prow_coal_still), ("prow/coal.asks", laid_prow_coal_asks)] }
def CoalDaysSaid : Prop := coalDaysRow.holds Tryd.pinned (OpenSpec.ofChange coalDaysSpec)

/-- ITS FALSE NEIGHBOUR: 'it returns false'. Refute it at one input. -/
def coalDaysWrong : ChangeSpec := { name := "coalDays", fn := fun _ => fun
  | [d1, d2] => { results := [.lit (.bool false)], args := [d1, d2] }
  | _ => none }
def CoalDaysWrongFalsely : Prop := coalDaysRow.holds Tryd.pinned (OpenSpec.ofChange coalDaysWrong)

/-- 'prowlaw06.CoalWrongs': WHATEVER THE INPUT: true; the input reads as it did. -/
def coalWrongsSpec : ChangeSpec := { name := "coalWrongs", fn := fun _ => fun
  | [d] => { results := [.lit (.bool true)], args := [d] }
  | _ => none }
def coalWrongsRow : OpenClaim := { program := "yticodohfokgjfaadoor", sum := "e0fdcf6d43b11de83b029da13043370e17e9dfd8ec40835bd27af4c7cbeaec07", func := "prow/prowlaw06.CoalWrongs", spec := "coalWrongs", unfollowed := true, recurses := true, named := ["prow/coal.still", "prow/coal.asks"], plainKeys := false, apart := false, laid := [("prow/coal.still", laid_prow_coal_still), ("prow/coal.asks", laid_prow_coal_asks)] }
def CoalWrongsSaid : Prop := coalWrongsRow.holds Tryd.pinned (OpenSpec.ofChange coalWrongsSpec)

/-- ITS FALSE NEIGHBOUR: 'it returns false'. Refute it at one input. -/
def coalWrongsWrong : ChangeSpec := { name := "coalWrongs", fn := fun _ => fun
  | [d] => { results := [.lit (.bool false)], args := [d] }
  | _ => none }
def CoalWrongsWrongFalsely : Prop := coalWrongsRow.holds Tryd.pinned (OpenSpec.ofChange coalWrongsWrong)

/-- 'prowlaw06.CoalTrue': WHATEVER THE INPUT: true; the input reads as it did. -/
def coalTrueSpec : ChangeSpec := { name := "coalTrue", fn := fun _ => fun
  | [d1, d2, d3] => { results := [.lit (.bool true)], args := [d1, d2, d3] }
  | _ => none }
def coalTrueRow : OpenClaim := { program := "yticodohfokgjfaadoor", sum := "e0fdcf6d43b11de83b029da13043370e17e9dfd8ec40835bd27af4c7cbeaec07", func := "prow/prowlaw06.CoalTrue", spec := "coalTrue", unfollowed := true, recurses := true, named := ["prow/coal.still", "prow/coal.asks"], plainKeys := false, apart := false, laid := [("prow/coal.still", laid_prow_coal_still), ("prow/coal.asks", laid_prow_coal_asks)] }
def CoalTrueSaid : Prop := coalTrueRow.holds Tryd.pinned (OpenSpec.ofChange coalTrueSpec)

/-- ITS FALSE NEIGHBOUR: 'it returns false'. Refute it at one input. -/
def coalTrueWrong : ChangeSpec := { name := "coalTrue", fn := fun _ => fun
  | [d1, d2, d3] => { results := [.lit (.bool false)], args := [d1, d2, d3] }
  | _ => none }
def CoalTrueWrongFalsely : Prop := coalTrueRow.holds Tryd.pinned (OpenSpec.ofChange coalTrueWrong)

/-- 'prowlaw06.CoalEnds': WHATEVER THE INPUT: true; the input reads as it did. -/
def coalEndsSpec : ChangeSpec := { name := "coalEnds", fn := fun _ => fun
  | [d1, d2] => { results := [.lit (.bool true)], args := [d1, d2] }
  | _ => none }
def coalEndsRow : OpenClaim := { program := "yticodohfokgjfaadoor", sum := "e0fdcf6d43b11de83b029da13043370e17e9dfd8ec40835bd27af4c7cbeaec07", func := "prow/prowlaw06.CoalEnds", spec := "coalEnds", unfollowed := true, recurses := true, named := ["prow/coal.still", "prow/coal.asks"], plainKeys := false, apart := false, laid := [("prow/coal.still", laid_prow_coal_still), ("prow/coal.asks", laid_prow_coal_asks)] }
def CoalEndsSaid : Prop := coalEndsRow.holds Tryd.pinned (OpenSpec.ofChange coalEndsSpec)

/-- ITS FALSE NEIGHBOUR: 'it returns false'. Refute it at one input. -/
def coalEndsWrong : ChangeSpec := { name := "coalEnds", fn := fun _ => fun
  | [d1, d2] => { results := [.lit (.bool false)], args := [d1, d2] }
  | _ => none }
def CoalEndsWrongFalsely : Prop := coalEndsRow.holds Tryd.pinned (OpenSpec.ofChange coalEndsWrong)

/-- 'prowlaw06.CoalMore': WHATEVER THE INPUT: true; the input reads as it did. -/
def coalMoreSpec : ChangeSpec := { name := "coalMore", fn := fun _ => fun
  | [d1, d2, d3] => { results := [.lit (.bool true)], args := [d1, d2, d3] }
  | _ => none }
def coalMoreRow : OpenClaim := { program := "yticodohfokgjfaadoor", sum := "e0fdcf6d43b11de83b029da13043370e17e9dfd8ec40835bd27af4c7cbeaec07", func := "prow/prowlaw06.CoalMore", spec := "coalMore", unfollowed := true, recurses := true, named := ["prow/coal.still", "prow/coal.asks"], plainKeys := false, apart := false, laid := [("prow/coal.still", laid_prow_coal_still), ("prow/coal.asks", laid_prow_coal_asks)] }
def CoalMoreSaid : Prop := coalMoreRow.holds Tryd.pinned (OpenSpec.ofChange coalMoreSpec)

/-- ITS FALSE NEIGHBOUR: 'it returns false'. Refute it at one input. -/
def coalMoreWrong : ChangeSpec := { name := "coalMore", fn := fun _ => fun
  | [d1, d2, d3] => { results := [.lit (.bool false)], args := [d1, d2, d3] }
  | _ => none }
def CoalMoreWrongFalsely : Prop := coalMoreRow.holds Tryd.pinned (OpenSpec.ofChange coalMoreWrong)

/-- 'prowlaw06.CoalOrder': WHATEVER THE INPUT: true; the input reads as it did. -/
def coalOrderSpec : ChangeSpec := { name := "coalOrder", fn := fun _ => fun
  | [d] => { results := [.lit (.bool true)], args := [d] }
  | _ => none }
def coalOrderRow : OpenClaim := { program := "yticodohfokgjfaadoor", sum := "e0fdcf6d43b11de83b029da13043370e17e9dfd8ec40835bd27af4c7cbeaec07", func := "prow/prowlaw06.CoalOrder", spec := "coalOrder", unfollowed := true, recurses := true, named := ["prow/coal.still", "prow/coal.asks"], plainKeys := false, apart := false, laid := [("prow/coal.still", laid_prow_coal_still), ("prow/coal.asks", laid_prow_coal_asks)] }
def CoalOrderSaid : Prop := coalOrderRow.holds Tryd.pinned (OpenSpec.ofChange coalOrderSpec)

/-- ITS FALSE NEIGHBOUR: 'it returns false'. Refute it at one input. -/
def coalOrderWrong : ChangeSpec := { name := "coalOrder", fn := fun _ => fun
  | [d] => { results := [.lit (.bool false)], args := [d] }
  | _ => none }
def CoalOrderWrongFalsely : Prop := coalOrderRow.holds Tryd.pinned (OpenSpec.ofChange coalOrderWrong)

/-- 'prowlaw06.CoalHigher': WHATEVER THE INPUT: true; the input reads as it did. -/
def coalHigherSpec : ChangeSpec := { name := "coalHigher", fn := fun _ => fun
  | [d1, d2] => { results := [.lit (.bool true)], args := [d1, d2] }
  | _ => none }
def coalHigherRow : OpenClaim := { program := "yticodohfokgjfaadoor", sum := "e0fdcf6d43b11de83b029da13043370e17e9dfd8ec40835bd27af4c7cbeaec07", func := "prow/prowlaw06.CoalHigher", spec := "coalHigher", unfollowed := true, recurses := true, named := ["prow/coal.still", "prow/coal.asks"], plainKeys := false, apart := false, laid := [("prow/coal.still", laid_prow_coal_still), ("prow/coal.asks", laid_prow_coal_asks)] }
def CoalHigherSaid : Prop := coalHigherRow.holds Tryd.pinned (OpenSpec.ofChange coalHigherSpec)

/-- ITS FALSE NEIGHBOUR: 'it returns false'. Refute it at one input. -/
def coalHigherWrong : ChangeSpec := { name := "coalHigher", fn := fun _ => fun
  | [d1, d2] => { results := [.lit (.bool false)], args := [d1, d2] }
  | _ => none }
def CoalHigherWrongFalsely : Prop := coalHigherRow.holds Tryd.pinned (OpenSpec.ofChange coalHigherWrong)

/-- 'prowlaw06.CoalDay': WHATEVER THE INPUT: true; the input reads as it did. -/
def coalDaySpec : ChangeSpec := { name := "coalDay", fn := fun _ => fun
  | [d1, d2] => { results := [.lit (.bool true)], args := [d1, d2] }
  | _ => none }
def coalDayRow : OpenClaim := { program := "yticodohfokgjfaadoor", sum := "e0fdcf6d43b11de83b029da13043370e17e9dfd8ec40835bd27af4c7cbeaec07", func := "prow/prowlaw06.CoalDay", spec := "coalDay", unfollowed := true, recurses := true, named := ["prow/coal.still", "prow/coal.asks"], plainKeys := false, apart := false, laid := [("prow/coal.still", laid_prow_coal_still), ("prow/coal.asks", laid_prow_coal_asks)] }
def CoalDaySaid : Prop := coalDayRow.holds Tryd.pinned (OpenSpec.ofChange coalDaySpec)

/-- ITS FALSE NEIGHBOUR: 'it returns false'. Refute it at one input. -/
def coalDayWrong : ChangeSpec := { name := "coalDay", fn := fun _ => fun
  | [d1, d2] => { results := [.lit (.bool false)], args := [d1, d2] }
  | _ => none }
def CoalDayWrongFalsely : Prop := coalDayRow.holds Tryd.pinned (OpenSpec.ofChange coalDayWrong)

/-- 'prowlaw06.CoalLate': WHATEVER THE INPUT: true; the input reads as it did. -/
def coalLateSpec : ChangeSpec := { name := "coalLate", fn := fun _ => fun
  | [d] => { results := [.lit (.bool true)], args := [d] }
  | _ => none }
def coalLateRow : OpenClaim := { program := "yticodohfokgjfaadoor", sum := "e0fdcf6d43b11de83b029da13043370e17e9dfd8ec40835bd27af4c7cbeaec07", func := "prow/prowlaw06.CoalLate", spec := "coalLate", unfollowed := true, recurses := true, named := ["prow/coal.still", "prow/coal.asks"], plainKeys := false, apart := false, laid := [("prow/coal.still", laid_prow_coal_still), ("prow/coal.asks", laid_prow_coal_asks)] }
def CoalLateSaid : Prop := coalLateRow.holds Tryd.pinned (OpenSpec.ofChange coalLateSpec)

/-- ITS FALSE NEIGHBOUR: 'it returns false'. Refute it at one input. -/
def coalLateWrong : ChangeSpec := { name := "coalLate", fn := fun _ => fun
  | [d] => { results := [.lit (.bool false)], args := [d] }
  | _ => none }
def CoalLateWrongFalsely : Prop := coalLateRow.holds Tryd.pinned (OpenSpec.ofChange coalLateWrong)

/-- 'prowlaw06.CoalEasier': WHATEVER THE INPUT: true; the input reads as it did. -/
def coalEasierSpec : ChangeSpec := { name := "coalEasier", fn := fun _ => fun
  | [d1, d2] => { results := [.lit (.bool true)], args := [d1, d2] }
  | _ => none }
def coalEasierRow : OpenClaim := { program := "yticodohfokgjfaadoor", sum := "e0fdcf6d43b11de83b029da13043370e17e9dfd8ec40835bd27af4c7cbeaec07", func := "prow/prowlaw06.CoalEasier", spec := "coalEasier", unfollowed := true, recurses := true, named := ["prow/coal.still", "prow/coal.asks"], plainKeys := false, apart := false, laid := [("prow/coal.still", laid_prow_coal_still), ("prow/coal.asks", laid_prow_coal_asks)] }
def CoalEasierSaid : Prop := coalEasierRow.holds Tryd.pinned (OpenSpec.ofChange coalEasierSpec)

/-- ITS FALSE NEIGHBOUR: 'it returns false'. Refute it at one input. -/
def coalEasierWrong : ChangeSpec := { name := "coalEasier", fn := fun _ => fun
  | [d1, d2] => { results := [.lit (.bool false)], args := [d1, d2] }
  | _ => none }
def CoalEasierWrongFalsely : Prop := coalEasierRow.holds Tryd.pinned (OpenSpec.ofChange coalEasierWrong)

/-- 'prowlaw06.CoalWrong': WHATEVER THE INPUT: true; the input reads as it did. -/
def coalWrongSpec : ChangeSpec := { name := "coalWrong", fn := fun _ => fun
  | [d1, d2] => { results := [.lit (.bool true)], args := [d1, d2] }
  | _ => none }
def coalWrongRow : OpenClaim := { program := "yticodohfokgjfaadoor", sum := "e0fdcf6d43b11de83b029da13043370e17e9dfd8ec40835bd27af4c7cbeaec07", func := "prow/prowlaw06.CoalWrong", spec := "coalWrong", unfollowed := true, recurses := true, named := ["prow/coal.still", "prow/coal.asks"], plainKeys := false, apart := false, laid := [("prow/coal.still", laid_prow_coal_still), ("prow/coal.asks", laid_prow_coal_asks)] }
def CoalWrongSaid : Prop := coalWrongRow.holds Tryd.pinned (OpenSpec.ofChange coalWrongSpec)

/-- ITS FALSE NEIGHBOUR: 'it returns false'. Refute it at one input. -/
def coalWrongWrong : ChangeSpec := { name := "coalWrong", fn := fun _ => fun
  | [d1, d2] => { results := [.lit (.bool false)], args := [d1, d2] }
  | _ => none }
def CoalWrongWrongFalsely : Prop := coalWrongRow.holds Tryd.pinned (OpenSpec.ofChange coalWrongWrong)

/-- 'prowlaw06.CoalKnown': WHATEVER THE INPUT: true; the input reads as it did. -/
def coalKnownSpec : ChangeSpec := { name := "coalKnown", fn := fun _ => fun
  | [] => { results := [.lit (.bool true)], args := [] }
  | _ => none }
def coalKnownRow : OpenClaim := { program := "yticodohfokgjfaadoor", sum := "e0fdcf6d43b11de83b029da13043370e17e9dfd8ec40835bd27af4c7cbeaec07", func := "prow/prowlaw06.CoalKnown", spec := "coalKnown", unfollowed := true, recurses := true, named := ["prow/coal.still", "prow/coal.asks"], plainKeys := false, apart := false, laid := [("prow/coal.still", laid_prow_coal_still), ("prow/coal.asks", laid_prow_coal_asks)] }
def CoalKnownSaid : Prop := coalKnownRow.holds Tryd.pinned (OpenSpec.ofChange coalKnownSpec)

/-- ITS FALSE NEIGHBOUR: 'it returns false'. Refute it at one input. -/
def coalKnownWrong : ChangeSpec := { name := "coalKnown", fn := fun _ => fun
  | [] => { results := [.lit (.bool false)], args := [] }
  | _ => none }
def CoalKnownWrongFalsely : Prop := coalKnownRow.holds Tryd.pinned (OpenSpec.ofChange coalKnownWrong)

/- THE SECOND FORM. 'bulk': how many values and letters a reading holds, each counted each time it is reached (what is shared counts as often as it is met; a slice's spare places count too). A statement '..UptoSaid' is the law's where the arguments, and the package variables that the reading takes, are together of bulk at most 1048576: NARROWER than '..Said'. Prove '..Said' where nothing that the law and all that it calls make is longer than what came in: it says more and counts as full. Else prove '..UptoSaid'. A law counts once. -/
mutual
def uptoBulk {H : Type} : DataW H → Nat
  | .lit (.string bytes) => bytes.length + 1
  | .lit _ => 1
  | .nil => 1
  | .ptr d => uptoBulk d + 1
  | .slice elems spare => uptoBulkAll elems + uptoBulkAll spare + 1
  | .agg parts => uptoBulkAll parts + 1
  | .iface _ d => uptoBulk d + 1
  | .map entries => uptoBulkEntries entries + 1
  | .held _ => 1
def uptoBulkAll {H : Type} : List (DataW H) → Nat
  | [] => 0
  | d :: r => uptoBulk d + uptoBulkAll r
def uptoBulkEntries {H : Type} : List (Lit × DataW H) → Nat
  | [] => 0
  | x :: r => uptoBulkEntry x + uptoBulkEntries r
def uptoBulkEntry {H : Type} : Lit × DataW H → Nat
  | (.string bytes, d) => bytes.length + uptoBulk d + 1
  | (_, d) => uptoBulk d + 1
 end
def uptoSmall : (H : Type) → List (DataW H) → Bool := fun _ ds => decide (uptoBulkAll ds ≤ 1048576)
def OpenSpec.upto (s : _root_.Go.ChangeSpec) : _root_.Go.OpenSpec := { _root_.Go.OpenSpec.ofChange s with cond := some uptoSmall }

/-- 'prowlaw06.CoalHeaps', WHERE WHAT IT READS IS OF BULK AT MOST 1048576: true; the input reads as it did. -/
def coalHeapsUptoRow : OpenClaim := { program := "yticodohfokgjfaadoor", sum := "e0fdcf6d43b11de83b029da13043370e17e9dfd8ec40835bd27af4c7cbeaec07", func := "prow/prowlaw06.CoalHeaps", spec := "coalHeaps", unfollowed := true, recurses := true, named := ["prow/coal.still", "prow/coal.asks"], plainKeys := false, apart := false, laid := [("prow/coal.still", laid_prow_coal_still), ("prow/coal.asks", laid_prow_coal_asks)], narrowed := true }
def CoalHeapsUptoSaid : Prop := coalHeapsUptoRow.holds Tryd.pinned (OpenSpec.upto coalHeapsSpec)

/-- 'prowlaw06.CoalDays', WHERE WHAT IT READS IS OF BULK AT MOST 1048576: true; the input reads as it did. -/
def coalDaysUptoRow : OpenClaim := { program := "yticodohfokgjfaadoor", sum := "e0fdcf6d43b11de83b029da13043370e17e9dfd8ec40835bd27af4c7cbeaec07", func := "prow/prowlaw06.CoalDays", spec := "coalDays", unfollowed := true, recurses := true, named := ["prow/coal.asks", "prow/coal.still"], plainKeys := false, apart := false, laid := [("prow/coal.still", laid_prow_coal_still), ("prow/coal.asks", laid_prow_coal_asks)], narrowed := true }
def CoalDaysUptoSaid : Prop := coalDaysUptoRow.holds Tryd.pinned (OpenSpec.upto coalDaysSpec)

/-- 'prowlaw06.CoalWrongs', WHERE WHAT IT READS IS OF BULK AT MOST 1048576: true; the input reads as it did. -/
def coalWrongsUptoRow : OpenClaim := { program := "yticodohfokgjfaadoor", sum := "e0fdcf6d43b11de83b029da13043370e17e9dfd8ec40835bd27af4c7cbeaec07", func := "prow/prowlaw06.CoalWrongs", spec := "coalWrongs", unfollowed := true, recurses := true, named := ["prow/coal.still", "prow/coal.asks"], plainKeys := false, apart := false, laid := [("prow/coal.still", laid_prow_coal_still), ("prow/coal.asks", laid_prow_coal_asks)], narrowed := true }
def CoalWrongsUptoSaid : Prop := coalWrongsUptoRow.holds Tryd.pinned (OpenSpec.upto coalWrongsSpec)

/-- 'prowlaw06.CoalTrue', WHERE WHAT IT READS IS OF BULK AT MOST 1048576: true; the input reads as it did. -/
def coalTrueUptoRow : OpenClaim := { program := "yticodohfokgjfaadoor", sum := "e0fdcf6d43b11de83b029da13043370e17e9dfd8ec40835bd27af4c7cbeaec07", func := "prow/prowlaw06.CoalTrue", spec := "coalTrue", unfollowed := true, recurses := true, named := ["prow/coal.still", "prow/coal.asks"], plainKeys := false, apart := false, laid := [("prow/coal.still", laid_prow_coal_still), ("prow/coal.asks", laid_prow_coal_asks)], narrowed := true }
def CoalTrueUptoSaid : Prop := coalTrueUptoRow.holds Tryd.pinned (OpenSpec.upto coalTrueSpec)

/-- 'prowlaw06.CoalEnds', WHERE WHAT IT READS IS OF BULK AT MOST 1048576: true; the input reads as it did. -/
def coalEndsUptoRow : OpenClaim := { program := "yticodohfokgjfaadoor", sum := "e0fdcf6d43b11de83b029da13043370e17e9dfd8ec40835bd27af4c7cbeaec07", func := "prow/prowlaw06.CoalEnds", spec := "coalEnds", unfollowed := true, recurses := true, named := ["prow/coal.still", "prow/coal.asks"], plainKeys := false, apart := false, laid := [("prow/coal.still", laid_prow_coal_still), ("prow/coal.asks", laid_prow_coal_asks)], narrowed := true }
def CoalEndsUptoSaid : Prop := coalEndsUptoRow.holds Tryd.pinned (OpenSpec.upto coalEndsSpec)

/-- 'prowlaw06.CoalMore', WHERE WHAT IT READS IS OF BULK AT MOST 1048576: true; the input reads as it did. -/
def coalMoreUptoRow : OpenClaim := { program := "yticodohfokgjfaadoor", sum := "e0fdcf6d43b11de83b029da13043370e17e9dfd8ec40835bd27af4c7cbeaec07", func := "prow/prowlaw06.CoalMore", spec := "coalMore", unfollowed := true, recurses := true, named := ["prow/coal.still", "prow/coal.asks"], plainKeys := false, apart := false, laid := [("prow/coal.still", laid_prow_coal_still), ("prow/coal.asks", laid_prow_coal_asks)], narrowed := true }
def CoalMoreUptoSaid : Prop := coalMoreUptoRow.holds Tryd.pinned (OpenSpec.upto coalMoreSpec)

/-- 'prowlaw06.CoalOrder', WHERE WHAT IT READS IS OF BULK AT MOST 1048576: true; the input reads as it did. -/
def coalOrderUptoRow : OpenClaim := { program := "yticodohfokgjfaadoor", sum := "e0fdcf6d43b11de83b029da13043370e17e9dfd8ec40835bd27af4c7cbeaec07", func := "prow/prowlaw06.CoalOrder", spec := "coalOrder", unfollowed := true, recurses := true, named := ["prow/coal.still", "prow/coal.asks"], plainKeys := false, apart := false, laid := [("prow/coal.still", laid_prow_coal_still), ("prow/coal.asks", laid_prow_coal_asks)], narrowed := true }
def CoalOrderUptoSaid : Prop := coalOrderUptoRow.holds Tryd.pinned (OpenSpec.upto coalOrderSpec)

/-- 'prowlaw06.CoalHigher', WHERE WHAT IT READS IS OF BULK AT MOST 1048576: true; the input reads as it did. -/
def coalHigherUptoRow : OpenClaim := { program := "yticodohfokgjfaadoor", sum := "e0fdcf6d43b11de83b029da13043370e17e9dfd8ec40835bd27af4c7cbeaec07", func := "prow/prowlaw06.CoalHigher", spec := "coalHigher", unfollowed := true, recurses := true, named := ["prow/coal.still", "prow/coal.asks"], plainKeys := false, apart := false, laid := [("prow/coal.still", laid_prow_coal_still), ("prow/coal.asks", laid_prow_coal_asks)], narrowed := true }
def CoalHigherUptoSaid : Prop := coalHigherUptoRow.holds Tryd.pinned (OpenSpec.upto coalHigherSpec)

/-- 'prowlaw06.CoalDay', WHERE WHAT IT READS IS OF BULK AT MOST 1048576: true; the input reads as it did. -/
def coalDayUptoRow : OpenClaim := { program := "yticodohfokgjfaadoor", sum := "e0fdcf6d43b11de83b029da13043370e17e9dfd8ec40835bd27af4c7cbeaec07", func := "prow/prowlaw06.CoalDay", spec := "coalDay", unfollowed := true, recurses := true, named := ["prow/coal.still", "prow/coal.asks"], plainKeys := false, apart := false, laid := [("prow/coal.still", laid_prow_coal_still), ("prow/coal.asks", laid_prow_coal_asks)], narrowed := true }
def CoalDayUptoSaid : Prop := coalDayUptoRow.holds Tryd.pinned (OpenSpec.upto coalDaySpec)

/-- 'prowlaw06.CoalLate', WHERE WHAT IT READS IS OF BULK AT MOST 1048576: true; the input reads as it did. -/
def coalLateUptoRow : OpenClaim := { program := "yticodohfokgjfaadoor", sum := "e0fdcf6d43b11de83b029da13043370e17e9dfd8ec40835bd27af4c7cbeaec07", func := "prow/prowlaw06.CoalLate", spec := "coalLate", unfollowed := true, recurses := true, named := ["prow/coal.still", "prow/coal.asks"], plainKeys := false, apart := false, laid := [("prow/coal.still", laid_prow_coal_still), ("prow/coal.asks", laid_prow_coal_asks)], narrowed := true }
def CoalLateUptoSaid : Prop := coalLateUptoRow.holds Tryd.pinned (OpenSpec.upto coalLateSpec)

/-- 'prowlaw06.CoalEasier', WHERE WHAT IT READS IS OF BULK AT MOST 1048576: true; the input reads as it did. -/
def coalEasierUptoRow : OpenClaim := { program := "yticodohfokgjfaadoor", sum := "e0fdcf6d43b11de83b029da13043370e17e9dfd8ec40835bd27af4c7cbeaec07", func := "prow/prowlaw06.CoalEasier", spec := "coalEasier", unfollowed := true, recurses := true, named := ["prow/coal.still", "prow/coal.asks"], plainKeys := false, apart := false, laid := [("prow/coal.still", laid_prow_coal_still), ("prow/coal.asks", laid_prow_coal_asks)], narrowed := true }
def CoalEasierUptoSaid : Prop := coalEasierUptoRow.holds Tryd.pinned (OpenSpec.upto coalEasierSpec)

/-- 'prowlaw06.CoalWrong', WHERE WHAT IT READS IS OF BULK AT MOST 1048576: true; the input reads as it did. -/
def coalWrongUptoRow : OpenClaim := { program := "yticodohfokgjfaadoor", sum := "e0fdcf6d43b11de83b029da13043370e17e9dfd8ec40835bd27af4c7cbeaec07", func := "prow/prowlaw06.CoalWrong", spec := "coalWrong", unfollowed := true, recurses := true, named := ["prow/coal.still", "prow/coal.asks"], plainKeys := false, apart := false, laid := [("prow/coal.still", laid_prow_coal_still), ("prow/coal.asks", laid_prow_coal_asks)], narrowed := true }
def CoalWrongUptoSaid : Prop := coalWrongUptoRow.holds Tryd.pinned (OpenSpec.upto coalWrongSpec)

/-- 'prowlaw06.CoalKnown', WHERE WHAT IT READS IS OF BULK AT MOST 1048576: true; the input reads as it did. -/
def coalKnownUptoRow : OpenClaim := { program := "yticodohfokgjfaadoor", sum := "e0fdcf6d43b11de83b029da13043370e17e9dfd8ec40835bd27af4c7cbeaec07", func := "prow/prowlaw06.CoalKnown", spec := "coalKnown", unfollowed := true, recurses := true, named := ["prow/coal.still", "prow/coal.asks"], plainKeys := false, apart := false, laid := [("prow/coal.still", laid_prow_coal_still), ("prow/coal.asks", laid_prow_coal_asks)], narrowed := true }
def CoalKnownUptoSaid : Prop := coalKnownUptoRow.holds Tryd.pinned (OpenSpec.upto coalKnownSpec)

end Rows
end Go.Proofs.YticodohfokgjfaaDoor
